/- PortLost: the walk. -/
import Derived.Test.YtcccdlmngddalaaGreatPtD
import Derived.Test.YtcccdlmngddalaaGreatExt
import Derived.Test.YtcccdlmngddalaaGreatSym
import Derived.Test.YtcccdlmngddalaaGreatRegT
import Derived.Test.YtcccdlmngddalaaGreatMapC
import Derived.Test.YtcccdlmngddalaaGreatGrF
import Derived.RangeFuncGives
import Derived.RangeFuncSeq
import Derived.Sort.MapsRangeIn
import Derived.Maps.AppendAt
import Derived.Sort.KeysCollected
import Derived.WalkKit
import Derived.OwnWalkIn
import Derived.TacticsInMore
import Derived.RegionIn
import Derived.LoopNIn
import Derived.LoopIn
import Derived.Shelf.SlIter.Collect
import Derived.Test.YtcccdlmngddalaaGreatGrEp
import Derived.Test.YtcccdlmngddalaaGreatLives18
set_option linter.unusedVariables false
set_option linter.unusedSimpArgs false
namespace Go.Proofs.YtcccdlmngddalaaGreat
open Go.RowKit
def adI (i : Nat) : Ad := ⟨false, [239, 1, 1, (i : Int) % 256, 0, 0, 0, 0, 0, 0, 0, 0, 0, 0, 0, 0], rfl, fun x hx => by simp at hx; omega⟩
theorem adI_inj {i j : Nat} (hi : i < 12) (hj : j < 12) (h : adI i = adI j) : i = j := by
  have := congrArg Ad.b h
  simp [adI] at this
  omega
def adX (i : Nat) : List R.Cel := [.x (.bool false), .x (.int .u8 239), .x (.int .u8 1), .x (.int .u8 1), .x (.int .u8 ((i : Int) % 256)), .x (.int .u8 0), .x (.int .u8 0), .x (.int .u8 0), .x (.int .u8 0), .x (.int .u8 0), .x (.int .u8 0), .x (.int .u8 0), .x (.int .u8 0), .x (.int .u8 0), .x (.int .u8 0), .x (.int .u8 0), .x (.int .u8 0)]
set_option maxRecDepth 1000000 in
theorem keptR : ((List.range 12).all fun i => R.runs Tryz.prog (R.EX extL) 1000 100 63 [.v (.a (adX i))] (.v (.c (.x (.bool true))))) = true := by kernel_rfl
theorem kept_i (i : Nat) (hi : i < 12) (w : World) : Calls Tryz.prog 63 #[.agg (adI i).c.toArray] w fun e w' => e = .returned (.bool true) ∧ Mod (fun _ => False) w w' :=
  R.runs_eq (E := R.EX extL) (hE := ext_ok) (P := Tryz.prog) (n := 1000) (k := 100) (us := #[.agg (adI i).c.toArray]) (xs := [.v (.a (adX i))]) (y := .v (.c (.x (.bool true)))) (by kernel_rfl) (List.all_eq_true.1 keptR i (List.mem_range.2 hi)) (show R.LR _ _ _ from ⟨⟨_, rfl, ⟨rfl, rfl⟩, ⟨rfl, rfl⟩, ⟨rfl, rfl⟩, ⟨rfl, rfl⟩, ⟨rfl, rfl⟩, ⟨rfl, rfl⟩, ⟨rfl, rfl⟩, ⟨rfl, rfl⟩, ⟨rfl, rfl⟩, ⟨rfl, rfl⟩, ⟨rfl, rfl⟩, ⟨rfl, rfl⟩, ⟨rfl, rfl⟩, ⟨rfl, rfl⟩, ⟨rfl, rfl⟩, ⟨rfl, rfl⟩, ⟨rfl, rfl⟩, trivial⟩, trivial⟩) R.hu_true w
set_option maxRecDepth 100000 in
theorem ptLost {w : World} {pp hb : Nat} {most now : Int} {fast : Bool} {gr sr : Int} {hs : List Hd} (h : PIn w pp hb most now fast gr sr hs) : Calls Tryz.prog 34 #[.pointer (some ⟨pp, 0, none⟩)] w fun e w' => e = .returned (.tuple #[.int .i64 gr, .int .i64 sr]) ∧ Mod (fun _ => False) w w' := by
  have c4 : w.cell? ⟨pp, 4, none⟩ = some (.int .i64 gr) := h.blk.cell rfl
  have c5 : w.cell? ⟨pp, 5, none⟩ = some (.int .i64 sr) := h.blk.cell rfl
  clear h
  have hS : w.drew.cell? ⟨pp, 4, none⟩ = some (.int .i64 gr) ∧ w.drew.cell? ⟨pp, 5, none⟩ = some (.int .i64 sr) := ⟨c4, c5⟩
  go_enter Tryz.func34, Tryz.ntmps34
  go_wp2_with fail
  refine wp_region_plan [] [(0, 0), (1, 0), (2, 0), (3, 1), (4, 0), (5, 0), (6, 0), (7, 1), (8, 0), (9, 0)] (fun w' : World => w'.cell? ⟨pp, 4, none⟩ = some (.int .i64 gr) ∧ w'.cell? ⟨pp, 5, none⟩ = some (.int .i64 sr)) (by kernel_rfl) (by kernel_rfl) (fun d v c a w h => by first | (cases d <;> exact h) | exact HP d v c a w h) ?_
  repeat ((first | refine plan_skip rfl rfl ?_ | refine plan_pass2 rfl rfl ?_ | refine plan_pass3 rfl rfl ?_ | (refine plan_take (v := ?_) rfl rfl ?_ ?_; rotate_left; focus (intro w0; go_simp; try with_reducible rfl)) | (refine plan_held (v := ?_) rfl rfl hS ?_ ?_; rotate_left; focus (intro w0 hSw; (try dsimp only at hSw); go_split_ands; go_simp; try with_reducible rfl)) | refine plan_skip1 rfl rfl hS ?_); simp only [nA, nB, nC, Act.put, nD, nE, nF])
  refine plan_nil ?_
  go_wp2
  go_returns
  exact ⟨rfl, (Mod.refl _ _).drew⟩
theorem tkSz : (Tryz.prog.info? 67).map (·.size) = some 26 := by kernel_rfl
theorem setHs_len (n : Int) (hs : List Hd) : (setHs n hs).length ≤ hs.length := by unfold setHs; exact Nat.le_trans (List.length_filter_le _ _) (by simp)
theorem settle_nowE {G : Gs} {n m : Int} (h : nowG G n = nowG G m) : settleG G n = settleG G m := by
  unfold settleG goneG
  rw [h]
theorem HdOk.set {hs : List Hd} (h : HdOk hs) (n : Int) : HdOk (setHs n hs) := ⟨fun x hx => by
  obtain ⟨hx1, _⟩ := List.mem_filter.1 (show x ∈ (hs.map (Hd.settle n)).filter _ from hx)
  obtain ⟨y, hy, rfl⟩ := List.mem_map.1 hx1
  obtain ⟨m, hm, he⟩ := h.eg y hy
  refine ⟨max m (min n 1000000000000), by omega, ?_⟩
  have e1 : settleG y.G n = settleG y.G (max m (min n 1000000000000)) := settle_nowE (by have := he.now; unfold nowG; omega)
  show EG (settleG y.G n) _ _
  rw [e1]
  exact he.settle (by omega) (by omega) (by omega)⟩
def HearP (w0 w : World) (pp hb : Nat) (most n : Int) (gr sr : Int) (hs : List Hd) (g : Ad) (R : Gs × Int) : Prop :=
  (most ≤ hs.length → PIn w pp hb most n false (gr + 1) sr hs) ∧
  (¬ most ≤ hs.length → ∃ p c b, PIn w pp hb most n false gr (sr + R.2) (hs ++ [⟨g, p, c, b, R.1⟩]) ∧ w0.heap.size ≤ p ∧ w0.heap.size ≤ b)
theorem HearP.keep0 {w0 w w' : World} {pp hb : Nat} {most n : Int} {gr sr : Int} {hs : List Hd} {g : Ad} {R : Gs × Int} (h : HearP w0 w pp hb most n gr sr hs g R) (hm : Mod (fun _ => False) w w') : HearP w0 w' pp hb most n gr sr hs g R :=
  ⟨fun a => (h.1 a).keep0 hm, fun a => by obtain ⟨p, c, b, h1, h2⟩ := h.2 a; exact ⟨p, c, b, h1.keep0 hm, h2⟩⟩
theorem HearPost.p {w w' : World} {pp hb : Nat} {most n : Int} {gr sr : Int} {hs : List Hd} {g : Ad} {R : Gs × Int} {e : Ending} (h : HearPost w pp hb most n false gr sr hs g R e w') {w0 : World} (h0 : w0.heap.size ≤ w.heap.size) : HearP w0 w' pp hb most n gr sr hs g R ∧ (∃ y, RetJ y e) ∧ Mod (fun k => k = pp ∨ k = hb) w w' := by
  obtain ⟨h1, h2, h3⟩ := h
  refine ⟨⟨fun a => (h1 a).2, fun a => ?_⟩, ?_, h3⟩
  · obtain ⟨_, p, c, b, h4, h5, h6⟩ := h2 a
    exact ⟨p, c, b, h4, by omega, by omega⟩
  · by_cases a : most ≤ (hs.length : Int)
    · exact ⟨_, (h1 a).1⟩
    · exact ⟨_, (h2 a).1⟩
theorem Blk.neB {w : World} {g g' : Nat} {t t' : TypeId} {cs : List Value} {cs' : Array Value} {z : Nat × Nat} (h : Blk w g t cs) (h' : w.heap[g']? = some (.cells cs' t' z)) (ht : t ≠ t') : g' ≠ g := fun e => by
  subst e
  unfold Blk at h
  rw [h] at h'
  injection h' with h'
  injection h' with _ h2
  exact ht h2
theorem PIn.farS {w w' : World} {pp hb : Nat} {most now : Int} {fast : Bool} {gr sr : Int} {hs : List Hd} (h : PIn w pp hb most now fast gr sr hs) {bz : Nat} {cs : List Value} (hz : Blk w bz 28 cs) (hm : Mod (fun k => k = bz) w w') : PIn w' pp hb most now fast gr sr hs := by
  have hnm : ∀ {b : Nat}, (∃ es ck, w.heap[b]? = some (.map es ck)) → b ≠ bz := fun {b} ⟨es, ck, hb⟩ e => by
    unfold Blk at hz
    rw [e, hz] at hb; cases hb
  obtain ⟨m0, hm0, hma⟩ := h.mp
  refine h.stay hm (fun e => absurd e (h.blk.neT hz (by decide))) (hnm hma.blks) (fun x hx => ?_) (hz.notA (by decide))
  obtain ⟨⟨cs1, z1, b1⟩, ⟨cs2, z2, b2⟩, b3⟩ := (h.gs x hx).blks
  exact ⟨hz.neB b1 (by decide), hz.neB b2 (by decide), hnm b3⟩
theorem HearP.farS {w0 w w' : World} {pp hb : Nat} {most n : Int} {gr sr : Int} {hs : List Hd} {g : Ad} {R : Gs × Int} (h : HearP w0 w pp hb most n gr sr hs g R) {bz : Nat} {cs : List Value} (hz : Blk w bz 28 cs) (hm : Mod (fun k => k = bz) w w') : HearP w0 w' pp hb most n gr sr hs g R :=
  ⟨fun a => (h.1 a).farS hz hm, fun a => by obtain ⟨p, c, b, h1, h2⟩ := h.2 a; exact ⟨p, c, b, h1.farS hz hm, h2⟩⟩
theorem HearP.fast {w0 w : World} {pp hb : Nat} {most n : Int} {gr sr : Int} {hs : List Hd} {g : Ad} {R : Gs × Int} (h : HearP w0 w pp hb most n gr sr hs g R) : w.cell? ⟨pp, 2, none⟩ = some (.bool false) := by
  by_cases a : most ≤ (hs.length : Int)
  · exact (h.1 a).blk.cell rfl
  · obtain ⟨_, _, _, h1, _⟩ := h.2 a
    exact h1.blk.cell rfl
abbrev zAsk : List Value := [.bool false, .int .u8 0, .int .u8 0, .int .u8 0, .int .u8 0, .int .u8 0, .int .u8 0, .int .u8 0, .int .u8 0, .int .u8 0, .int .u8 0, .int .u8 0, .int .u8 0, .int .u8 0, .int .u8 0, .int .u8 0, .int .u8 0, .bool false, .slice none 0 0]
theorem elAsk : Elem Tryz.prog 71 115 (.agg zAsk.toArray) 19 48 := .mk' Tryz.underlying71 (by kernel_rfl) rfl
theorem bldAsk (g : Ad) : ∃ A0 : List Value, g.c.zipIdx.foldl (fun (cs : Array Value) (x : Value × Nat) => cs.setIfInBounds x.2 x.1) #[.bool false, .int .u8 0, .int .u8 0, .int .u8 0, .int .u8 0, .int .u8 0, .int .u8 0, .int .u8 0, .int .u8 0, .int .u8 0, .int .u8 0, .int .u8 0, .int .u8 0, .int .u8 0, .int .u8 0, .int .u8 0, .int .u8 0, .bool false, .slice none 0 0] = A0.toArray ∧ A0.length = 19 ∧ ∀ u ∈ A0, u.oneCell' = true := by
  refine ⟨g.c ++ [.bool false, .slice none 0 0], ?_, by rw [List.length_append, g.c_len]; rfl, fun u hu => ?_⟩
  · have := foldl_at 0 g.c 0 #[.bool false, .int .u8 0, .int .u8 0, .int .u8 0, .int .u8 0, .int .u8 0, .int .u8 0, .int .u8 0, .int .u8 0, .int .u8 0, .int .u8 0, .int .u8 0, .int .u8 0, .int .u8 0, .int .u8 0, .int .u8 0, .int .u8 0, .bool false, .slice none 0 0] (by rw [g.c_len]; decide)
    simp only [Nat.zero_add] at this
    rw [this, g.c_len]
    rfl
  · rcases List.mem_append.1 hu with hu | hu
    · exact g.c_one u hu
    · simp at hu
      rcases hu with rfl | rfl <;> rfl
theorem set_one {l : List Value} (h : ∀ u ∈ l, u.oneCell' = true) {v : Value} (hv : v.oneCell' = true) (i : Nat) : ∀ u ∈ l.set i v, u.oneCell' = true := fun u hu => by
  rcases List.mem_or_eq_of_mem_set hu with hu | rfl
  · exact h u hu
  · exact hv
abbrev zStp : List Value := [.bool false, .slice none 0 0, .slice none 0 0, .slice none 0 0, .slice none 0 0, .bool false, .slice none 0 0, .bool false]
abbrev zRec : List Value := [.int .i64 0, .bool false, .int .u8 0, .int .u8 0, .int .u8 0, .int .u8 0, .int .u8 0, .int .u8 0, .int .u8 0, .int .u8 0, .int .u8 0, .int .u8 0, .int .u8 0, .int .u8 0, .int .u8 0, .int .u8 0, .int .u8 0, .int .u8 0, .slice none 0 0]
set_option maxRecDepth 100000 in
set_option maxHeartbeats 4000000 in
theorem ptHearU {w : World} {pp hb : Nat} {most now : Int} {gr sr : Int} {hs : List Hd} (h : PIn w pp hb most now false gr sr hs) (ok : HdOk hs) (hl : hs.length ≤ 1000) (hmost : 0 ≤ most ∧ most ≤ 1000) (hgr : 0 ≤ gr ∧ gr ≤ 1000000000000) (hsr : 0 ≤ sr ∧ sr ≤ 1000000000000) (n : Int) (t : Tn) (ht : t.ok) (i : Nat) (hi : i < 12)
    {n' : Int} (hn' : n' = max now (min n 1000000000000)) (hn0 : 0 ≤ n' ∧ n' ≤ 1000000000000) {R : Gs × Int} (hR : R = hearG (G0 (adI i).v) n' t.member 2 2 []) (hex : R.1.ex = true) (hlost : 0 ≤ R.2 ∧ R.2 ≤ 1000) (hna : ∀ x ∈ setHs n' hs, x.a ≠ adI i) :
    Calls Tryz.prog 29 #[.pointer (some ⟨pp, 0, none⟩), .int .i64 n, .agg t.c.toArray, .agg (tkC (adI i)).toArray] w fun e w' => (∃ v, e = .returned v) ∧ HearP w w' pp hb most n' gr sr (setHs n' hs) (adI i) R ∧ Mod (PF pp hb hs) w w' := by
  have hm0 : Mod (fun _ => False) w ((w.alloc (.cells t.c.toArray 32 (0, 0))).alloc (.cells (tkC (adI i)).toArray 67 (0, 0))) := ((Mod.refl _ _).alloc _).alloc _
  have HI0 := Lib.hid (h.keep0 hm0)
  have HT0 : Hid (Blk ((w.alloc (.cells t.c.toArray 32 (0, 0))).alloc (.cells (tkC (adI i)).toArray 67 (0, 0))) w.heap.size 32 t.c) := Lib.hid ((Blk.new w _ _).alloc _)
  have HK0 : Hid (Blk ((w.alloc (.cells t.c.toArray 32 (0, 0))).alloc (.cells (tkC (adI i)).toArray 67 (0, 0))) (w.heap.size + 1) 67 (tkC (adI i))) := Lib.hid (by
    have := Blk.new (w.alloc (.cells t.c.toArray 32 (0, 0))) 67 (tkC (adI i))
    rwa [show (w.alloc (.cells t.c.toArray 32 (0, 0))).heap.size = w.heap.size + 1 by simp] at this)
  have HM0 : Hid (Mod (PF pp hb hs) w ((w.alloc (.cells t.c.toArray 32 (0, 0))).alloc (.cells (tkC (adI i)).toArray 67 (0, 0)))) := Lib.hid hm0.no
  have HLT := Lib.hid h.lts
  have HOK := Lib.hid ok
  have HTO := Lib.hid ht
  have HNA := Lib.hid hna
  have HRR := Lib.hid hR
  have HEX := Lib.hid hex
  obtain ⟨g, hg⟩ : ∃ g, g = adI i := ⟨_, rfl⟩
  have HKE : Hid (∀ w, Calls Tryz.prog 63 #[.agg g.c.toArray] w fun e w' => e = .returned (.bool true) ∧ Mod (fun _ => False) w w') := Lib.hid (hg ▸ kept_i i hi)
  rw [← hg] at HT0 HK0 HI0 HM0 HNA HRR ⊢
  have HGS := Lib.hid g.c_sz
  have HTK : Hid ((Tryz.prog.info? 67).map (·.size) = some (tkC g).length) := Lib.hid (by rw [tkC_len]; exact tkSz)
  have HN' := Lib.hid hn'
  clear h ok ht hna hR hex hg hm0 hn'
  go_enter Tryz.func29, Tryz.ntmps29
  go_wp2_with fail
  refine (ptSettle HI0.out HOK.out hl n).mono ?_
  rw [← HN'.out]
  rintro e W1 ⟨rfl, hp1, hm1⟩
  have HLT1 : Hid (pp < w.heap.size ∧ hb < w.heap.size) := Lib.hid ⟨HLT.out.1, HLT.out.2.1⟩
  have HPF : Hid (∀ k, PF pp hb hs k → k < w.heap.size) := Lib.hid fun k hk => by
    rcases hk with rfl | rfl | ⟨x, hx, rfl | rfl⟩
    · exact HLT.out.1
    · exact HLT.out.2.1
    · exact (HLT.out.2.2 x hx).1
    · exact (HLT.out.2.2 x hx).2.2
  have HP1 := Lib.hid hp1
  have HT1 := Lib.hid (HT0.out.keep hm1 fun f => by have := HPF.out _ f; omega)
  have HK1 := Lib.hid (HK0.out.keep hm1 fun f => by have := HPF.out _ f; omega)
  have HM1 : Hid (Mod (PF pp hb hs) w W1) := Lib.hid (HM0.out.trans hm1 fun k hk => .inl hk)
  have HSZ1 : Hid (w.heap.size + 2 ≤ W1.heap.size) := Lib.hid (by have := HK1.out.lt; omega)
  clear hp1 hm1 HI0 HT0 HK0 HM0
  go_wp2_with (first
    | (refine wpList_load_blk rfl _ _ rfl (w.heap.size + 1) 0 rfl 67 (tkC g) (tkC g) _ HK1.out (List.take_of_length_le (Nat.le_refl _)) Tryz.underlying67 rfl HTK.out ?_))
  refine (recs2 g _).mono ?_
  rintro e W2 ⟨q, cap, rfl, hr2, hcap, hm2⟩
  have HR2 := Lib.hid hr2
  have HP2 := Lib.hid (HP1.out.keep0 hm2)
  have HT2 := Lib.hid (HT1.out.keep hm2 fun f => f)
  have HK2 := Lib.hid (HK1.out.keep hm2 fun f => f)
  have HM2 : Hid (Mod (PF pp hb hs) w W2) := Lib.hid (HM1.out.trans hm2 fun _ f => f.elim)
  have HSZ2 : Hid (w.heap.size + 2 ≤ W2.heap.size) := Lib.hid (by have := HSZ1.out; have := hm2.size; omega)
  clear hr2 hm2 HP1 HT1 HK1 HM1 hcap
  go_wp2_with fail
  go_loopw [9, 22] (fun ov iv wr => (iv = .int .i64 0 ∧ wr = W2 ∧ ov = .slice none 0 0) ∨ ∃ v : Value, iv = .int .i64 1 ∧ ov = v ∧ HearP w wr pp hb most n' gr sr (setHs n' hs) g R ∧ Mod (PF pp hb hs) w wr) (fun _ iv _ => 1 - (intOf iv).toNat)
  case atStart => exact .inl ⟨rfl, rfl, rfl⟩
  case round =>
    rcases hrel with ⟨rfl, rfl, rfl⟩ | ⟨v, rfl, rfl, hhp, hmm⟩
    · go_upto_block 1 with fail
      go_cut [9, 11, 12, 13] from 24 to 85 (fun _ _ _ _ wx => HearP w wx pp hb most n' gr sr (setHs n' hs) g R ∧ Mod (PF pp hb hs) w wx)
      case first =>
        have HRS : Hid (∀ k g v, (Tryz.prog.info? 38).map (·.size) = some (recC k g v).length) := Lib.hid fun k g v => recC_sz k g v
        have HFIT : Hid (0 + (recC 2 g (.slice none 0 0)).length ≤ zRec.length) := Lib.hid (by rw [recC_len]; decide)
        have HRO := Lib.hid (recC_one 2 g (.slice none 0 0) rfl)
        go_upto_region 9 with (first
          | (refine wpList_load_midG rfl _ _ rfl q 0 rfl (recC 2 g (.slice none 0 0)) _ HR2.out Tryz.underlying38 rfl (HRS.out _ _ _) ?_)
          | (refine wpList_store_blk rfl _ _ _ rfl wr.heap.size 0 38 zRec (recC 2 g (.slice none 0 0)) rfl rfl (Blk.new wr 38 zRec) HFIT.out (HRS.out _ _ _) HRO.out ?_; intro W3 HB3 HM3; have HRB3 := Lib.hid (splice_all HB3.out (by rw [recC_len]; rfl)); have HM23 : Hid (Mod (fun _ => False) wr W3) := Lib.hid (((Mod.refl _ _).alloc _).trans HM3.out fun x hx => .inr (by omega)))
          | (refine wpList_load_blk rfl _ _ rfl wr.heap.size 1 rfl 38 (recC 2 g (.slice none 0 0)) g.c _ HRB3.out (recC_g _ _ _) Tryz.underlying36 rfl HGS.out ?_)
          | (go_at_call 63; refine (HKE.out _).mono ?_; rintro e W4 ⟨rfl, hm4⟩; have HM24 : Hid (Mod (fun _ => False) wr W4) := Lib.hid (HM23.out.trans hm4 fun _ f => f.elim); have HRB4 := Lib.hid (HRB3.out.keep hm4 fun f => f); clear hm4))
        obtain ⟨bq, hbq⟩ : ∃ bq, bq = wr.heap.size := ⟨_, rfl⟩
        have HBQ : Hid (w.heap.size + 2 ≤ bq) := Lib.hid (by have := HSZ2.out; omega)
        rw [← hbq] at HRB4 ⊢
        obtain ⟨V0, hV0⟩ : ∃ V0, V0 = W4.drew := ⟨_, rfl⟩
        have hmv : Mod (fun _ => False) wr V0 := hV0 ▸ HM24.out.drew
        have hmv4 : Mod (fun _ => False) W4 V0 := hV0 ▸ (Mod.refl _ _).drew
        have HS0 : Hid (Blk V0 w.heap.size 32 t.c ∧ Blk V0 (w.heap.size + 1) 67 (tkC g) ∧ Blk V0 bq 38 (recC 2 g (.slice none 0 0))) := Lib.hid ⟨HT2.out.keep hmv fun f => f, HK2.out.keep hmv fun f => f, HRB4.out.keep hmv4 fun f => f⟩
        have HP0 := Lib.hid (HP2.out.keep0 hmv)
        have HMD0 : Hid (Mod (PF pp hb hs) w V0) := Lib.hid (HM2.out.trans hmv fun _ f => f.elim)
        have HQ0 : Hid (bq < V0.heap.size) := Lib.hid HS0.out.2.2.lt
        clear hmv hmv4 hbq HRB3 HM23 HRB4 HM24 HR2 HP2 HT2 HK2 HM2 HSZ2 HB3 HM3
        go_cut [12, 13] from 30 to 39 (fun v12 v13 wx => ∃ (bz : Nat) (y : Bool) (a1 : Option Addr) (n1 c1 : Nat) (a2 : Option Addr) (n2 c2 : Nat) (a3 : Option Addr) (n3 c3 : Nat) (a4 : Option Addr) (n4 c4 : Nat) (x2 : Bool) (a6 : Option Addr) (n6 c6 : Nat) (x3 : Bool), v12 = .pointer (some ⟨bz, 0, none⟩) ∧ v13 = .bool y ∧ Blk wx bz 28 [.bool true, .slice a1 n1 c1, .slice a2 n2 c2, .slice a3 n3 c3, .slice a4 n4 c4, .bool x2, .slice a6 n6 c6, .bool x3] ∧ Blk wx bq 38 (recC 2 g (.slice none 0 0)) ∧ HearP w wx pp hb most n' gr sr (setHs n' hs) g R ∧ Mod (PF pp hb hs) w wx)
        case first =>
          refine wp_region_T [] (.c 0 0 (.c 1 0 (.c 2 1 (.c 3 1 (.c 5 1 (.f 4 10 (.f 6 10 (.c 7 0 (.c 8 0 (.c 9 0 (.c 10 2 (.c 11 2 (.c 12 0 .n)))))) (.c 6 2 (.c 7 0 (.c 8 0 (.c 9 0 (.c 11 2 (.c 12 0 .n))))))) (.c 4 2 (.c 6 2 (.c 7 0 (.c 8 0 (.c 9 0 (.c 11 2 (.c 12 0 .n))))))))))))) (fun v : World => Blk v w.heap.size 32 t.c ∧ Blk v (w.heap.size + 1) 67 (tkC g) ∧ Blk v bq 38 (recC 2 g (.slice none 0 0))) (by kernel_rfl) (by kernel_rfl) (fun d _ _ _ _ h => by cases d <;> exact h) ?_
          rw [← hV0]
          clear hV0
          repeat ((first | (refine T_take (v := ?_) rfl rfl ?_ ?_; rotate_left; focus (intro w0; go_simp; try with_reducible rfl))); simp only [nA, nB, nC, Act.put, nD, nE, nF])
          refine T_held rfl rfl HS0.out (fun v hv => exec_load_blk _ _ rfl w.heap.size 0 rfl 32 t.c t.c _ v hv.1 rfl Tryz.underlying32 rfl tuSz) ?_
          try simp only [nA, nB, nC, Act.put, nD, nE, nF]
          refine T_held rfl rfl HS0.out (fun v hv => exec_load_blk _ _ rfl (w.heap.size + 1) 0 rfl 67 (tkC g) (tkC g) _ v hv.2.1 (List.take_of_length_le (Nat.le_refl _)) Tryz.underlying67 rfl HTK.out) ?_
          try simp only [nA, nB, nC, Act.put, nD, nE, nF]
          refine T_held rfl rfl HS0.out (fun v hv => exec_load_blk _ _ rfl bq 0 rfl 38 (recC 2 g (.slice none 0 0)) (recC 2 g (.slice none 0 0)) _ v hv.2.2 (List.take_of_length_le (Nat.le_refl _)) Tryz.underlying38 rfl (HRS.out _ _ _)) ?_
          try simp only [nA, nB, nC, Act.put, nD, nE, nF]
          (refine T_fork rfl rfl rfl rfl (fun K hK => ?_) (fun K hK => ?_) <;> (try simp only [nA, nB, nC]))
          · skip
            go_simp
            refine (older2 g _).mono ?_
            rintro e V1 ⟨rfl, hm⟩
            have HS1 : Hid (Blk V1 w.heap.size 32 t.c ∧ Blk V1 (w.heap.size + 1) 67 (tkC g) ∧ Blk V1 bq 38 (recC 2 g (.slice none 0 0))) := Lib.hid ⟨HS0.out.1.keep hm fun f => f, HS0.out.2.1.keep hm fun f => f, HS0.out.2.2.keep hm fun f => f⟩
            have HP1 := Lib.hid (HP0.out.keep0 hm)
            have HMD1 : Hid (Mod (PF pp hb hs) w V1) := Lib.hid (HMD0.out.trans hm fun _ f => f.elim)
            have HQ1 : Hid (bq < V1.heap.size) := Lib.hid (HS1.out.2.2.lt)
            refine hK _ _ HS1.out ?_
            clear hK K hm
            try simp only [nA, nB, nC, Act.put, nD, nE, nF]
            (refine T_fork rfl rfl rfl rfl (fun K hK => ?_) (fun K hK => ?_) <;> (try simp only [nA, nB, nC]))
            · skip
              go_simp
              refine (ptHear HP1.out (Nat.le_trans (setHs_len _ _) hl) hmost hgr hsr n' t HTO.out 2 2 g HNA.out (RowA.nil _ _) (Nat.zero_le _) HRR.out HEX.out hlost hn0).mono ?_
              intro e V2 hpost
              obtain ⟨hp, ⟨y, a1, n1, c1, a2, n2, c2, a3, n3, c3, a4, n4, c4, x2, a6, n6, c6, x3, rfl⟩, hm⟩ := hpost.p (w0 := w) (by have := HQ1.out; have := HBQ.out; omega)
              have HP2 := Lib.hid hp
              have hn : ∀ b, w.heap.size ≤ b → ¬ (b = pp ∨ b = hb) := fun b h f => by have := HLT1.out; omega
              have HS2 : Hid (Blk V2 w.heap.size 32 t.c ∧ Blk V2 (w.heap.size + 1) 67 (tkC g) ∧ Blk V2 bq 38 (recC 2 g (.slice none 0 0))) := Lib.hid ⟨HS1.out.1.keep hm (hn _ (Nat.le_refl _)), HS1.out.2.1.keep hm (hn _ (by omega)), HS1.out.2.2.keep hm (hn _ (by have := HBQ.out; omega))⟩
              have HMD2 : Hid (Mod (PF pp hb hs) w V2) := Lib.hid (HMD1.out.trans hm fun k hk => .inl (hk.elim .inl fun h => .inr (.inl h)))
              have HQ2 : Hid (bq < V2.heap.size) := Lib.hid (HS2.out.2.2.lt)
              refine hK _ _ HS2.out ?_
              clear hK K hm hp hpost hn
              try simp only [nA, nB, nC, Act.put, nD, nE, nF]
              repeat ((first | (refine T_take (v := ?_) rfl rfl ?_ ?_; rotate_left; focus (intro w0; go_simp; try with_reducible rfl))); simp only [nA, nB, nC, Act.put, nD, nE, nF])
              (refine T_do rfl rfl fun K hK => ?_; (try simp only [nA, nB, nC]))
              go_simp
              obtain ⟨bz, hbz⟩ : ∃ bz, bz = V2.heap.size := ⟨_, rfl⟩
              obtain ⟨V3, hV3⟩ : ∃ V3, V3 = V2.alloc (.cells #[.bool false, .slice none 0 0, .slice none 0 0, .slice none 0 0, .slice none 0 0, .bool false, .slice none 0 0, .bool false] 28 (0, 0)) := ⟨_, rfl⟩
              have hm : Mod (fun _ => False) V2 V3 := hV3 ▸ (Mod.refl _ _).alloc _
              rw [← hbz, ← hV3]
              have HZ3 : Hid (Blk V3 bz 28 zStp) := Lib.hid (by rw [hV3, hbz]; exact Blk.new V2 28 zStp)
              have HBZ : Hid (bq < bz) := Lib.hid (by have := HQ2.out; omega)
              have HS3 : Hid (Blk V3 w.heap.size 32 t.c ∧ Blk V3 (w.heap.size + 1) 67 (tkC g) ∧ Blk V3 bq 38 (recC 2 g (.slice none 0 0))) := Lib.hid ⟨HS2.out.1.keep hm fun f => f, HS2.out.2.1.keep hm fun f => f, HS2.out.2.2.keep hm fun f => f⟩
              have HP3 := Lib.hid (HP2.out.keep0 hm)
              have HMD3 : Hid (Mod (PF pp hb hs) w V3) := Lib.hid (HMD2.out.trans hm fun _ f => f.elim)
              have HQ3 : Hid (bq < V3.heap.size) := Lib.hid (HS3.out.2.2.lt)
              refine hK _ _ HS3.out ?_
              clear hK K hm hbz hV3
              try simp only [nA, nB, nC, Act.put, nD, nE, nF]
              (refine T_do rfl rfl fun K hK => ?_; (try simp only [nA, nB, nC]))
              refine wp_store_blk _ _ _ rfl bz 0 28 zStp [.bool true, .slice a1 n1 c1, .slice a2 n2 c2, .slice a3 n3 c3, .slice a4 n4 c4, .bool x2, .slice a6 n6 c6, .bool x3] rfl rfl HZ3.out (by simp) spSz (by simp [Value.oneCell']) ?_
              intro V4 HB4 HX4
              have HZ4 : Hid (Blk V4 bz 28 [.bool true, .slice a1 n1 c1, .slice a2 n2 c2, .slice a3 n3 c3, .slice a4 n4 c4, .bool x2, .slice a6 n6 c6, .bool x3]) := Lib.hid (splice_all HB4.out rfl)
              have HS4 : Hid (Blk V4 w.heap.size 32 t.c ∧ Blk V4 (w.heap.size + 1) 67 (tkC g) ∧ Blk V4 bq 38 (recC 2 g (.slice none 0 0))) := Lib.hid ⟨HS3.out.1.keep HX4.out fun f => by have := HBQ.out; have := HBZ.out; omega, HS3.out.2.1.keep HX4.out fun f => by have := HBQ.out; have := HBZ.out; omega, HS3.out.2.2.keep HX4.out fun f => by have := HBZ.out; omega⟩
              refine hK _ _ HS4.out ?_
              clear hK K
              try simp only [nA, nB, nC, Act.put, nD, nE, nF]
              repeat ((first | (refine T_take (v := ?_) rfl rfl ?_ ?_; rotate_left; focus (intro w0; go_simp; try with_reducible rfl))); simp only [nA, nB, nC, Act.put, nD, nE, nF])
              refine T_nil ?_
              go_wp2_with fail
              go_meet
              refine ⟨bz, y, a1, n1, c1, a2, n2, c2, a3, n3, c3, a4, n4, c4, x2, a6, n6, c6, x3, rfl, rfl, HZ4.out, HS4.out.2.2, HP3.out.farS HZ3.out HX4.out, HMD3.out.trans HX4.out fun k hk => .inr (by have := HBQ.out; have := HBZ.out; omega)⟩
            · skip
              go_simp
              obtain ⟨bz, hbz⟩ : ∃ bz, bz = V1.heap.size := ⟨_, rfl⟩
              obtain ⟨V2, hV2⟩ : ∃ V2, V2 = V1.alloc (.cells #[.bool false, .slice none 0 0, .slice none 0 0, .slice none 0 0, .slice none 0 0, .bool false, .slice none 0 0, .bool false] 28 (0, 0)) := ⟨_, rfl⟩
              have hm : Mod (fun _ => False) V1 V2 := hV2 ▸ (Mod.refl _ _).alloc _
              rw [← hbz, ← hV2]
              have HZ2 : Hid (Blk V2 bz 28 zStp) := Lib.hid (by rw [hV2, hbz]; exact Blk.new V1 28 zStp)
              have HBZ : Hid (bq < bz) := Lib.hid (by have := HQ1.out; omega)
              have HS2 : Hid (Blk V2 w.heap.size 32 t.c ∧ Blk V2 (w.heap.size + 1) 67 (tkC g) ∧ Blk V2 bq 38 (recC 2 g (.slice none 0 0))) := Lib.hid ⟨HS1.out.1.keep hm fun f => f, HS1.out.2.1.keep hm fun f => f, HS1.out.2.2.keep hm fun f => f⟩
              have HP2 := Lib.hid (HP1.out.keep0 hm)
              have HMD2 : Hid (Mod (PF pp hb hs) w V2) := Lib.hid (HMD1.out.trans hm fun _ f => f.elim)
              have HQ2 : Hid (bq < V2.heap.size) := Lib.hid (HS2.out.2.2.lt)
              refine hK _ _ HS2.out ?_
              clear hK K hm hbz hV2
              try simp only [nA, nB, nC, Act.put, nD, nE, nF]
              (refine T_do rfl rfl fun K hK => ?_; (try simp only [nA, nB, nC]))
              go_simp
              refine (ptHear HP2.out (Nat.le_trans (setHs_len _ _) hl) hmost hgr hsr n' t HTO.out 2 2 g HNA.out (RowA.nil _ _) (Nat.zero_le _) HRR.out HEX.out hlost hn0).mono ?_
              intro e V3 hpost
              obtain ⟨hp, ⟨y, a1, n1, c1, a2, n2, c2, a3, n3, c3, a4, n4, c4, x2, a6, n6, c6, x3, rfl⟩, hm⟩ := hpost.p (w0 := w) (by have := HQ2.out; have := HBQ.out; omega)
              have HP3 := Lib.hid hp
              have hn : ∀ b, w.heap.size ≤ b → ¬ (b = pp ∨ b = hb) := fun b h f => by have := HLT1.out; omega
              have HS3 : Hid (Blk V3 w.heap.size 32 t.c ∧ Blk V3 (w.heap.size + 1) 67 (tkC g) ∧ Blk V3 bq 38 (recC 2 g (.slice none 0 0))) := Lib.hid ⟨HS2.out.1.keep hm (hn _ (Nat.le_refl _)), HS2.out.2.1.keep hm (hn _ (by omega)), HS2.out.2.2.keep hm (hn _ (by have := HBQ.out; omega))⟩
              have HMD3 : Hid (Mod (PF pp hb hs) w V3) := Lib.hid (HMD2.out.trans hm fun k hk => .inl (hk.elim .inl fun h => .inr (.inl h)))
              have HQ3 : Hid (bq < V3.heap.size) := Lib.hid (HS3.out.2.2.lt)
              have HZ3 := Lib.hid (HZ2.out.keep hm (hn _ (by have := HBQ.out; have := HBZ.out; omega)))
              refine hK _ _ HS3.out ?_
              clear hK K hm hp hpost hn
              try simp only [nA, nB, nC, Act.put, nD, nE, nF]
              repeat ((first | (refine T_take (v := ?_) rfl rfl ?_ ?_; rotate_left; focus (intro w0; go_simp; try with_reducible rfl))); simp only [nA, nB, nC, Act.put, nD, nE, nF])
              (refine T_do rfl rfl fun K hK => ?_; (try simp only [nA, nB, nC]))
              refine wp_store_blk _ _ _ rfl bz 0 28 zStp [.bool true, .slice a1 n1 c1, .slice a2 n2 c2, .slice a3 n3 c3, .slice a4 n4 c4, .bool x2, .slice a6 n6 c6, .bool x3] rfl rfl HZ3.out (by simp) spSz (by simp [Value.oneCell']) ?_
              intro V4 HB4 HX4
              have HZ4 : Hid (Blk V4 bz 28 [.bool true, .slice a1 n1 c1, .slice a2 n2 c2, .slice a3 n3 c3, .slice a4 n4 c4, .bool x2, .slice a6 n6 c6, .bool x3]) := Lib.hid (splice_all HB4.out rfl)
              have HS4 : Hid (Blk V4 w.heap.size 32 t.c ∧ Blk V4 (w.heap.size + 1) 67 (tkC g) ∧ Blk V4 bq 38 (recC 2 g (.slice none 0 0))) := Lib.hid ⟨HS3.out.1.keep HX4.out fun f => by have := HBQ.out; have := HBZ.out; omega, HS3.out.2.1.keep HX4.out fun f => by have := HBQ.out; have := HBZ.out; omega, HS3.out.2.2.keep HX4.out fun f => by have := HBZ.out; omega⟩
              refine hK _ _ HS4.out ?_
              clear hK K
              try simp only [nA, nB, nC, Act.put, nD, nE, nF]
              repeat ((first | (refine T_take (v := ?_) rfl rfl ?_ ?_; rotate_left; focus (intro w0; go_simp; try with_reducible rfl))); simp only [nA, nB, nC, Act.put, nD, nE, nF])
              refine T_nil ?_
              go_wp2_with fail
              go_meet
              refine ⟨bz, y, a1, n1, c1, a2, n2, c2, a3, n3, c3, a4, n4, c4, x2, a6, n6, c6, x3, rfl, rfl, HZ4.out, HS4.out.2.2, HP3.out.farS HZ3.out HX4.out, HMD3.out.trans HX4.out fun k hk => .inr (by have := HBQ.out; have := HBZ.out; omega)⟩
          · skip
            go_simp
            obtain ⟨bz, hbz⟩ : ∃ bz, bz = V0.heap.size := ⟨_, rfl⟩
            obtain ⟨V1, hV1⟩ : ∃ V1, V1 = V0.alloc (.cells #[.bool false, .slice none 0 0, .slice none 0 0, .slice none 0 0, .slice none 0 0, .bool false, .slice none 0 0, .bool false] 28 (0, 0)) := ⟨_, rfl⟩
            have hm : Mod (fun _ => False) V0 V1 := hV1 ▸ (Mod.refl _ _).alloc _
            rw [← hbz, ← hV1]
            have HZ1 : Hid (Blk V1 bz 28 zStp) := Lib.hid (by rw [hV1, hbz]; exact Blk.new V0 28 zStp)
            have HBZ : Hid (bq < bz) := Lib.hid (by have := HQ0.out; omega)
            have HS1 : Hid (Blk V1 w.heap.size 32 t.c ∧ Blk V1 (w.heap.size + 1) 67 (tkC g) ∧ Blk V1 bq 38 (recC 2 g (.slice none 0 0))) := Lib.hid ⟨HS0.out.1.keep hm fun f => f, HS0.out.2.1.keep hm fun f => f, HS0.out.2.2.keep hm fun f => f⟩
            have HP1 := Lib.hid (HP0.out.keep0 hm)
            have HMD1 : Hid (Mod (PF pp hb hs) w V1) := Lib.hid (HMD0.out.trans hm fun _ f => f.elim)
            have HQ1 : Hid (bq < V1.heap.size) := Lib.hid (HS1.out.2.2.lt)
            refine hK _ _ HS1.out ?_
            clear hK K hm hbz hV1
            try simp only [nA, nB, nC, Act.put, nD, nE, nF]
            (refine T_do rfl rfl fun K hK => ?_; (try simp only [nA, nB, nC]))
            go_simp
            refine (older2 g _).mono ?_
            rintro e V2 ⟨rfl, hm⟩
            have HS2 : Hid (Blk V2 w.heap.size 32 t.c ∧ Blk V2 (w.heap.size + 1) 67 (tkC g) ∧ Blk V2 bq 38 (recC 2 g (.slice none 0 0))) := Lib.hid ⟨HS1.out.1.keep hm fun f => f, HS1.out.2.1.keep hm fun f => f, HS1.out.2.2.keep hm fun f => f⟩
            have HP2 := Lib.hid (HP1.out.keep0 hm)
            have HMD2 : Hid (Mod (PF pp hb hs) w V2) := Lib.hid (HMD1.out.trans hm fun _ f => f.elim)
            have HQ2 : Hid (bq < V2.heap.size) := Lib.hid (HS2.out.2.2.lt)
            have HZ2 := Lib.hid (HZ1.out.keep hm fun f => f)
            refine hK _ _ HS2.out ?_
            clear hK K hm
            try simp only [nA, nB, nC, Act.put, nD, nE, nF]
            (refine T_do rfl rfl fun K hK => ?_; (try simp only [nA, nB, nC]))
            go_simp
            refine (ptHear HP2.out (Nat.le_trans (setHs_len _ _) hl) hmost hgr hsr n' t HTO.out 2 2 g HNA.out (RowA.nil _ _) (Nat.zero_le _) HRR.out HEX.out hlost hn0).mono ?_
            intro e V3 hpost
            obtain ⟨hp, ⟨y, a1, n1, c1, a2, n2, c2, a3, n3, c3, a4, n4, c4, x2, a6, n6, c6, x3, rfl⟩, hm⟩ := hpost.p (w0 := w) (by have := HQ2.out; have := HBQ.out; omega)
            have HP3 := Lib.hid hp
            have hn : ∀ b, w.heap.size ≤ b → ¬ (b = pp ∨ b = hb) := fun b h f => by have := HLT1.out; omega
            have HS3 : Hid (Blk V3 w.heap.size 32 t.c ∧ Blk V3 (w.heap.size + 1) 67 (tkC g) ∧ Blk V3 bq 38 (recC 2 g (.slice none 0 0))) := Lib.hid ⟨HS2.out.1.keep hm (hn _ (Nat.le_refl _)), HS2.out.2.1.keep hm (hn _ (by omega)), HS2.out.2.2.keep hm (hn _ (by have := HBQ.out; omega))⟩
            have HMD3 : Hid (Mod (PF pp hb hs) w V3) := Lib.hid (HMD2.out.trans hm fun k hk => .inl (hk.elim .inl fun h => .inr (.inl h)))
            have HQ3 : Hid (bq < V3.heap.size) := Lib.hid (HS3.out.2.2.lt)
            have HZ3 := Lib.hid (HZ2.out.keep hm (hn _ (by have := HBQ.out; have := HBZ.out; omega)))
            refine hK _ _ HS3.out ?_
            clear hK K hm hp hpost hn
            try simp only [nA, nB, nC, Act.put, nD, nE, nF]
            repeat ((first | (refine T_take (v := ?_) rfl rfl ?_ ?_; rotate_left; focus (intro w0; go_simp; try with_reducible rfl))); simp only [nA, nB, nC, Act.put, nD, nE, nF])
            (refine T_do rfl rfl fun K hK => ?_; (try simp only [nA, nB, nC]))
            refine wp_store_blk _ _ _ rfl bz 0 28 zStp [.bool true, .slice a1 n1 c1, .slice a2 n2 c2, .slice a3 n3 c3, .slice a4 n4 c4, .bool x2, .slice a6 n6 c6, .bool x3] rfl rfl HZ3.out (by simp) spSz (by simp [Value.oneCell']) ?_
            intro V4 HB4 HX4
            have HZ4 : Hid (Blk V4 bz 28 [.bool true, .slice a1 n1 c1, .slice a2 n2 c2, .slice a3 n3 c3, .slice a4 n4 c4, .bool x2, .slice a6 n6 c6, .bool x3]) := Lib.hid (splice_all HB4.out rfl)
            have HS4 : Hid (Blk V4 w.heap.size 32 t.c ∧ Blk V4 (w.heap.size + 1) 67 (tkC g) ∧ Blk V4 bq 38 (recC 2 g (.slice none 0 0))) := Lib.hid ⟨HS3.out.1.keep HX4.out fun f => by have := HBQ.out; have := HBZ.out; omega, HS3.out.2.1.keep HX4.out fun f => by have := HBQ.out; have := HBZ.out; omega, HS3.out.2.2.keep HX4.out fun f => by have := HBZ.out; omega⟩
            refine hK _ _ HS4.out ?_
            clear hK K
            try simp only [nA, nB, nC, Act.put, nD, nE, nF]
            repeat ((first | (refine T_take (v := ?_) rfl rfl ?_ ?_; rotate_left; focus (intro w0; go_simp; try with_reducible rfl))); simp only [nA, nB, nC, Act.put, nD, nE, nF])
            refine T_nil ?_
            go_wp2_with fail
            go_meet
            refine ⟨bz, y, a1, n1, c1, a2, n2, c2, a3, n3, c3, a4, n4, c4, x2, a6, n6, c6, x3, rfl, rfl, HZ4.out, HS4.out.2.2, HP3.out.farS HZ3.out HX4.out, HMD3.out.trans HX4.out fun k hk => .inr (by have := HBQ.out; have := HBZ.out; omega)⟩
        case rest =>
          obtain ⟨bz, y, a1, n1, c1, a2, n2, c2, a3, n3, c3, a4, n4, c4, x2, a6, n6, c6, x3, rfl, rfl, hz, hq, hh, hmm⟩ := hcut
          have HZ := Lib.hid hz
          have HQB := Lib.hid hq
          have HH := Lib.hid hh
          have HMM := Lib.hid hmm
          have z4 : wc.cell? ⟨bz, 6, none⟩ = some (.slice a6 n6 c6) := hz.cell rfl
          have z5 : wc.cell? ⟨bz, 7, none⟩ = some (.bool x3) := hz.cell rfl
          clear hz hq hh hmm
          cases y with
          | false =>
            go_wp2_with fail
            go_meet
            exact ⟨HH.out, HMM.out⟩
          | true =>
            by_cases hn6 : n6 = 0 ∧ x3 = false
            · obtain ⟨rfl, rfl⟩ := hn6
              go_wp2_with fail
              go_meet
              exact ⟨HH.out, HMM.out⟩
            · have z2 : wc.cell? ⟨pp, 2, none⟩ = some (.bool false) := HH.out.fast
              have hgl := g.c_len
              obtain ⟨A0, hbl, hal, hao⟩ := bldAsk g
              have HAL := Lib.hid hal
              have HA1 := Lib.hid hao
              clear hao
              by_cases h0 : n6 = 0
              · subst h0
                obtain rfl : x3 = true := by cases x3 with
                  | false => exact absurd ⟨rfl, rfl⟩ hn6
                  | true => rfl
                go_wp2_with (first
                  | (refine wpList_load_blk rfl _ _ rfl bq 1 rfl 38 (recC 2 g (.slice none 0 0)) g.c _ HQB.out (recC_g _ _ _) Tryz.underlying36 rfl HGS.out ?_)
                  | (refine wpList_buildSlice1 elAsk rfl _ rfl ((A0.set 17 (.bool true)).set 18 (.slice a6 0 c6)) rfl (by rw [List.length_set, List.length_set]; exact HAL.out) (by decide) (by decide) ?_)
                  | (at_builtin; refine wpList_append_one elAsk rfl (.tmp 76) (.tmp 84) rfl ((A0.set 17 (.bool true)).set 18 (.slice a6 0 c6)).toArray (fun q => w.heap.size ≤ q) (.slice none 0 0) 0 [] ((Row.nil _ _ _ _).alloc _) _ (allocNew _ _) rfl rfl (by rw [List.size_toArray, List.length_set, List.length_set]; exact HAL.out) (set_one (set_one HA1.out rfl 17) rfl 18) (by omega) (by unfold maxLen; omega) ?_; intro v9 w9 h9 h9m; have H9M : Hid (Mod (fun _ => False) wc w9) := Lib.hid (((Mod.refl _ _).alloc _).trans h9m fun k hk => by simp [Value.ownBlock] at hk); clear h9 h9m))
                go_meet
                exact ⟨HH.out.keep0 H9M.out, HMM.out.trans H9M.out fun _ f => f.elim⟩
              · have bn : ((n6 : Int) == 0) = false := by simp [h0]
                go_wp2_with (first
                  | (refine wpList_load_blk rfl _ _ rfl bq 1 rfl 38 (recC 2 g (.slice none 0 0)) g.c _ HQB.out (recC_g _ _ _) Tryz.underlying36 rfl HGS.out ?_)
                  | (refine wpList_buildSlice1 elAsk rfl _ rfl ((A0.set 17 (.bool x3)).set 18 (.slice a6 n6 c6)) rfl (by rw [List.length_set, List.length_set]; exact HAL.out) (by decide) (by decide) ?_)
                  | (at_builtin; refine wpList_append_one elAsk rfl (.tmp 76) (.tmp 84) rfl ((A0.set 17 (.bool x3)).set 18 (.slice a6 n6 c6)).toArray (fun q => w.heap.size ≤ q) (.slice none 0 0) 0 [] ((Row.nil _ _ _ _).alloc _) _ (allocNew _ _) rfl rfl (by rw [List.size_toArray, List.length_set, List.length_set]; exact HAL.out) (set_one (set_one HA1.out rfl 17) rfl 18) (by omega) (by unfold maxLen; omega) ?_; intro v9 w9 h9 h9m; have H9M : Hid (Mod (fun _ => False) wc w9) := Lib.hid (((Mod.refl _ _).alloc _).trans h9m fun k hk => by simp [Value.ownBlock] at hk); clear h9 h9m))
                go_meet
                exact ⟨HH.out.keep0 H9M.out, HMM.out.trans H9M.out fun _ f => f.elim⟩
      case rest =>
        have HHC := Lib.hid hcut
        clear hcut
        go_wp2
        go_roundw
        case rel => exact .inr ⟨_, by go_num, rfl, HHC.out⟩
        case measure => simp [intOf]
    · have HH := Lib.hid hhp
      have HMM := Lib.hid hmm
      clear hhp hmm
      go_wp2
      go_ret
      exact ⟨⟨_, rfl⟩, HH.out, HMM.out⟩
end Go.Proofs.YtcccdlmngddalaaGreat
namespace Go.Proofs.YtcccdlmngddalaaGreat
open Go.RowKit Go.Maps Go.Sort Go.MapKept Go.WideShapes
section
variable {F : Fence} {n : Nat} {P : Program} {w w' : World} {ops : Array Oper} {rest : List Oper} {o : Oper} {a : Act} {Q : Exit → Act → World → Prop}
theorem wpListIn_v (hgd : o.guard = none) (hd : ∀ c, o.op ≠ .defer c) (hab : o.about P w a.eval = none) {v : Value} (hrun : (execOp a.eval o).run P w = .ok (.value v) w') (h : wpListIn F n P ops Q rest (a.put o.dst v) w') : wpListIn F n P ops Q (o :: rest) a w := by
  refine wpListIn_plain hgd fun K hK => ?_
  unfold Oper.wpIn
  refine ⟨fun f hf => (by rw [hab] at hf; cases hf), ?_⟩
  rw [Oper.semAt_plain F _ _ hd, hrun]
  exact hK _ _ h
theorem wpListIn_u (hgd : o.guard = none) (hd : ∀ c, o.op ≠ .defer c) (hab : o.about P w a.eval = none) (hrun : (execOp a.eval o).run P w = .ok .skip w') (h : wpListIn F n P ops Q rest (a.put o.dst undef) w') : wpListIn F n P ops Q (o :: rest) a w := by
  refine wpListIn_plain hgd fun K hK => ?_
  unfold Oper.wpIn
  refine ⟨fun f hf => (by rw [hab] at hf; cases hf), ?_⟩
  rw [Oper.semAt_plain F _ _ hd, hrun]
  exact hK _ _ h
theorem wpListIn_load_blk (hgd : o.guard = none) (ty : TypeId) (x : Operand) (ho : o.op = .load ty x) (g off : Nat) (hx : a.eval x = .pointer (some ⟨g, off, none⟩)) (t : TypeId) (cur cs : List Value) (d : TypeDesc)
    (hg : Blk w g t cur) (hcs : (cur.drop off).take cs.length = cs) (hu : P.underlying ty = some d) (hd : d.isRow = true) (hi : (P.info? ty).map (·.size) = some cs.length)
    (h : wpListIn F n P ops Q rest (a.put o.dst (.agg cs.toArray)) w) : wpListIn F n P ops Q (o :: rest) a w :=
  wpListIn_v hgd (fun c e => by rw [ho] at e; cases e) (by simp [Oper.about, ho]) (exec_load_blk ty x ho g off hx t cur cs d w hg hcs hu hd hi) h
theorem grownBy_setRow (w : World) (g : Nat) (cur : Array Value) : w.grownBy (w.setRow g cur) (some g) := ⟨rfl, rfl, rfl, by simp [World.setRow], fun k _ hk => setRow_other w g k _ fun e => hk (by rw [e])⟩
theorem wpListIn_store_blk (hgd : o.guard = none) (ty : TypeId) (x y : Operand) (ho : o.op = .store ty x y) (g off : Nat) (t : TypeId) (cur cs : List Value) (hx : a.eval x = .pointer (some ⟨g, off, none⟩)) (hy : a.eval y = .agg cs.toArray)
    (hg : Blk w g t cur) (hfit : off + cs.length ≤ cur.length) (hi : (P.info? ty).map (·.size) = some cs.length) (h1 : ∀ v ∈ cs, v.oneCell' = true)
    (h : ∀ w', Blk w' g t (splice cur off cs) → w.grownBy w' (some g) → wpListIn F n P ops Q rest (a.put o.dst undef) w') : wpListIn F n P ops Q (o :: rest) a w :=
  wpListIn_u hgd (fun c e => by rw [ho] at e; cases e) (by simp [Oper.about, ho]) (by
    have hrun := run_storeAt_blk (P := P) ty g off t cur cs hg hfit hi h1
    unfold execOp
    simp only [ho, hx, hy, Sem.run_bind, Sem.run_pure, hrun, Result.andThen_ok]) (h _ (blk_setRow hg _) (grownBy_setRow _ _ _))
theorem wpListIn_build1 {t e : TypeId} {z : Value} {size bytes : Nat} (E : Elem P t e z size bytes) (hgd : o.guard = none) (x : Operand) (ho : o.op = .buildSlice t 1 #[(0, x)]) (cs : List Value) (hx : a.eval x = .agg cs.toArray)
    (hl : cs.length = size) (h0 : 0 < size) (hs : size ≤ 1000) (h : wpListIn F n P ops Q rest (a.put o.dst (.slice (some ⟨w.heap.size, 0, none⟩) 1 1)) (w.alloc (.cells cs.toArray e (0, 0)))) : wpListIn F n P ops Q (o :: rest) a w :=
  wpListIn_v hgd (fun c e => by rw [ho] at e; cases e) (by simp [Oper.about, ho]) (by
    have hr := run_buildSlice1 E cs hl h0 hs w
    simp [execOp, ho, hx, hr, Result.andThen]) h
theorem cells_new (w : World) (cs : List Value) (t : TypeId) : ∀ j u, cs[j]? = some u → (w.alloc (.cells cs.toArray t (0, 0))).cell? ((⟨w.heap.size, 0, none⟩ : Addr).add j) = some u := fun j u h => by
  have h2 := (Blk.new w t cs).cell h
  have e : (⟨w.heap.size, 0, none⟩ : Addr).add j = ⟨w.heap.size, j, none⟩ := by
    by_cases hj : j = 0
    · subst hj; rfl
    · simp [Addr.add, hj]
  rw [e]; exact h2
end
theorem Blk.ofGrown {w w' : World} {row : Option Nat} {g : Nat} {t : TypeId} {cs : List Value} (h : Blk w g t cs) (hg : w.grownBy w' row) (hn : some g ≠ row) : Blk w' g t cs := by
  have hl := h.lt
  unfold Blk at *
  rw [hg.block g hl hn]; exact h
theorem grown_alloc (w : World) (o : Obj) : w.grownBy (w.alloc o) none := ⟨rfl, rfl, rfl, by simp, fun k hk _ => Below.heap_alloc w o k hk⟩
theorem grown_none {a b c : World} (h : a.grownBy b none) {g : Nat} (hg : a.heap.size ≤ g) (k : b.grownBy c (some g)) : a.grownBy c none :=
  ⟨k.os.trans h.os, k.tape.trans h.tape, k.output.trans h.output, Nat.le_trans h.size k.size, fun j hj _ => (k.block j (Nat.lt_of_lt_of_le hj h.size) (fun e => by injection e with e; omega)).trans (h.block j hj (by simp))⟩
theorem nd_len2 {α : Type} [BEq α] [LawfulBEq α] : ∀ (l m : List α), l.Nodup → (∀ a ∈ l, a ∈ m) → l.length ≤ m.length
  | [], _, _, _ => Nat.zero_le _
  | a :: l, m, h, hs => by
    have ha := hs a List.mem_cons_self
    obtain ⟨h1, h2⟩ := List.nodup_cons.1 h
    have := nd_len2 l (m.erase a) h2 fun x hx => (List.mem_erase_of_ne (fun e => h1 (by rw [← e]; exact hx))).2 (hs x (List.mem_cons_of_mem _ hx))
    have h3 := List.length_erase_of_mem ha
    have h4 := List.length_pos_of_mem ha
    rw [List.length_cons]
    omega
theorem ColA.lt {m s : List (Ad × Value)} {left : Lit → Bool} (h : ColA m s left) {p : Ad × Value} (hpm : p ∈ m) (hl : left (litA p.1) = true) : s.length < m.length := by
  have h2 := h.step hpm hl
  have h3 := nd_len2 ((s ++ [p]).map (·.1)) (m.map (·.1)) h2.nd fun a ha => by
    obtain ⟨q, hq, rfl⟩ := List.mem_map.1 ha
    exact List.mem_map_of_mem (h2.sub q hq)
  simp at h3
  omega
set_option maxRecDepth 100000 in
set_option maxHeartbeats 2000000 in
theorem keysA1_in (n : Nat) (hn : 1 ≤ n) (l Bm b nn : Nat) (m : List (Ad × Value)) (hv : ∀ p ∈ m, PtrV p.2) (hnd : (m.map (·.1)).Nodup) (ml : List (Lit × DataW Unit)) (hperm : ml.Perm (m.map enA)) (J : List Ad → World → Prop)
    (hY : ∀ pre x W, J pre W → pre.length < m.length → YieldAt Fence.wide (n - 1) Tryz.prog l #[Ad.kv x] W fun e W' => e = .returned (.bool true) ∧ J (pre ++ [x]) W' ∧ KeepsWalks W W')
    (W : World) (hJ : AbidesFrom W.heap.size J) (hm : W.cell? ⟨Bm, 0, none⟩ = some (.map (some b))) (hown : W.ownsMap Tryz.prog 36 Rp b nn (.map ml)) (h0 : J [] W) :
    CallsIn Fence.wide n Tryz.prog 121 #[.func (.yield l) #[] #[], .pointer (some ⟨Bm, 0, none⟩)] W fun e W' => (∃ v, e = .returned v) ∧ ∃ ss : List Ad, ss.Perm (m.map (·.1)) ∧ J ss W' := by
  have K : Keyed Tryz.prog 36 := adrKeyed
  refine callsIn_of_wp Tryz.func121 rfl trivial ?_ rfl
  simp only [Tryz.ntmps121, List.size_toArray, List.length_cons, List.length_nil, Nat.reduceAdd, Nat.reduceSub, Array.replicate_succ, Array.replicate_zero, List.push_toArray, List.append_toArray, List.nil_append, List.cons_append]
  gi_wp2_with (first
    | (gi_at_range; refine wpListIn_range_own _ rfl _ 108 rfl 36 22 K Tryz.underlying108 _ b nn _ rfl hown ?_; intro w0 hrg0 hg0 hs0)
    | gi_in)
  go_frame
  obtain ⟨_, hml, hap, _⟩ := hown.entries K
  injection hml with hml
  subst hml
  gi_loopw [3] (fun _ wr => ∃ (left : Lit → Bool) (cnt : Nat) (s : List (Ad × Value)), wr.ranges Tryz.prog 36 Rp b W.heap.size nn (.map ml) left cnt ∧ ColA m s left ∧ J (s.map (·.1)) wr)
    (fun _ wr => wr.rangeLeft b W.heap.size)
  case atStart =>
    exact ⟨_, _, [], hrg0, ColA.start hperm, hJ [] W w0 none h0 hg0 (fun r e => by cases e)⟩
  case round =>
    obtain ⟨left, cnt, s, hrg, hcol, hJs⟩ := hrel
    gi_wp2_with (first
      | (gi_at_next; refine wpListIn_next_ranges _ rfl _ rfl 36 K Rp id id (fun key _ _ => ⟨key, rfl⟩) (fun v _ _ => ⟨v, rfl⟩) b W.heap.size nn _ _ _ rfl hrg ?_ ?_)
      | gi_in)
    · -- nothing is left
      intro hc0 hl0
      gi_wp2
      go_end0
      exact ⟨⟨_, rfl⟩, s.map (·.1), (hcol.done hnd hl0).map _, hJs⟩
    · -- an entry has come
      intro x c kl yd yp w2 cnt2 hkey hlk hvv hat hrg2 hlt hg2 hs2 hen
      obtain ⟨g, rfl, hyy⟩ := Rp_ptr hvv
      obtain ⟨rfl, -⟩ : yd = .lit (.int .u64 (g : Int)) ∧ yp = [] := by injection hyy with e1 e2; exact ⟨e1, e2⟩
      obtain ⟨p, hpm, hkl, hp2⟩ := enA_mem hv hperm hap (has_true_of_atKey hat) hat
      subst hkl
      obtain rfl : x = p.1.kv := K.inj hkey (litA_eq p.1)
      have hJ2 : J (s.map (·.1)) w2 := hJ _ wr w2 (some W.heap.size) hJs hg2 (fun r e => by cases e; exact ⟨Nat.le_refl _, hrg.iter_walk⟩)
      have hlen := hcol.lt hpm hlk
      have hcol2 := hcol.step hpm hlk
      have hleft := hrg.left_eq
      obtain ⟨q, hq⟩ : ∃ q, q = p.1 := ⟨_, rfl⟩
      have hen' : (Instr.entry (.pointer (some ⟨W.heap.size, 0, none⟩))).run Tryz.prog w2 = .ok (.tuple #[.agg q.c.toArray, .pointer (some ⟨g, 0, none⟩)]) w2 := by rw [hq]; exact hen
      have hsz := q.c_sz
      have hone := q.c_one
      have hfit : 0 + q.c.length ≤ (adrC false z16).length := by rw [q.c_len]; decide
      have HSZ := Lib.hid hsz
      have HFIT := Lib.hid hfit
      have HQ := Lib.hid hq
      clear hs2 hen hsz hfit hrg hg2 hkey hvv hyy hq
      gi_wp2_with (first
        | (refine wpListIn_store_blk rfl _ _ _ rfl w2.heap.size 0 36 (adrC false z16) q.c rfl rfl (Blk.new w2 36 (adrC false z16)) HFIT.out HSZ.out hone ?_
           intro w3 hB3 hg3
           have HB3 := Lib.hid (splice_all hB3 (by rw [q.c_len]; rfl))
           have hg23 : w2.grownBy w3 none := grown_none (grown_alloc w2 _) (Nat.le_refl _) hg3
           have hJ3 : J (s.map (·.1)) w3 := hJ _ w2 w3 none hJ2 hg23 (fun r e => by cases e)
           have hrg3 := hrg2.of_walks (KeepsWalks.of_grownBy hg23 (fun j o e => by cases e))
           obtain ⟨fn, tmps, assign, body, hy, hR⟩ := (show YieldAt Fence.wide (n - 1) Tryz.prog l #[.agg q.c.toArray] w3 _ from hY (s.map (·.1)) q w3 hJ3 (by rw [List.length_map]; exact hlen))
           clear hB3 hg3)
        | (refine wpListIn_load_blk rfl _ _ rfl w2.heap.size 0 rfl 36 q.c q.c _ HB3.out (List.take_of_length_le (Nat.le_refl _)) Tryz.underlying36 rfl HSZ.out ?_)
        | gi_in)
      refine hR.mono ?_
      rintro e W4 ⟨rfl, hJ4, hk4⟩
      gi_wp2
      have hrg4 := hrg3.of_walks hk4
      go_roundw
      case rel => exact ⟨_, cnt2, s ++ [p], hrg4, hcol2, by rw [List.map_append]; rw [HQ.out] at hJ4; exact hJ4⟩
      case measure => rw [hrg4.left_eq, hleft]; exact hlt
theorem keysA_gives (n : Nat) (hn : 1 ≤ n) (Bm b nn : Nat) (m : List (Ad × Value)) (hv : ∀ p ∈ m, PtrV p.2) (hnd : (m.map (·.1)).Nodup) (ml : List (Lit × DataW Unit)) (hperm : ml.Perm (m.map enA)) (w : World) (hBm : Bm < w.heap.size)
    (hm : w.cell? ⟨Bm, 0, none⟩ = some (.map (some b))) (hown : w.ownsMap Tryz.prog 36 Rp b nn (.map ml)) :
    SeqGives Fence.wide n Tryz.prog 121 #[.pointer (some ⟨Bm, 0, none⟩)] Ad.kv (fun ss => ss.Perm (m.map (·.1))) m.length w := fun l J W hW hJ hY h0 => by
  have hown' : W.ownsMap Tryz.prog 36 Rp b nn (.map ml) := by
    have hbl := hown.lt
    obtain ⟨es, clock, hb, Ft, hs, hD⟩ := hown
    exact ⟨es, clock, (hW.block b hbl).trans hb, Ft, hs, hD⟩
  exact keysA1_in n hn l Bm b nn m hv hnd ml hperm J hY W hJ ((hW.cell (p := ⟨Bm, 0, none⟩) hBm).trans hm) hown' h0
def apAssignA : Code := (Code.region 2 #[{ dst := some 5, op := Op.alloc 36, type := 0, pos := "iter.go:51", after := #[], guard := none }, { dst := none, op := Op.store 36 (Operand.tmp 5) (Operand.tmp 7), type := 0, pos := "iter.go:51", after := #[{ on := 0, ground := Ground.data }, { on := 0, ground := Ground.phase }], guard := none }] false)
def apBodyA : Code := (Code.block 1 (Code.region 3 #[{ dst := some 8, op := Op.load (24) (Operand.tmp 2), type := 24, pos := "iter.go:52", after := #[], guard := none }, { dst := some 9, op := Op.load 36 (Operand.tmp 5), type := 36, pos := "iter.go:52", after := #[], guard := none }, { dst := some 10, op := Op.buildSlice (24) 1 #[(0, Operand.tmp 9)], type := 24, pos := "iter.go:52", after := #[{ on := 1, ground := Ground.data }], guard := none }, { dst := some 11, op := Op.call { callee := Callee.builtin Builtin.append, args := #[Operand.tmp 8, Operand.tmp 10], argTypes := #[24, 24] }, type := 24, pos := "iter.go:52", after := #[{ on := 0, ground := Ground.data }, { on := 2, ground := Ground.data }], guard := none }, { dst := none, op := Op.store (24) (Operand.tmp 2) (Operand.tmp 11), type := 0, pos := "iter.go:52", after := #[{ on := 3, ground := Ground.data }, { on := 3, ground := Ground.chain }, { on := 0, ground := Ground.phase }, { on := 1, ground := Ground.phase }, { on := 2, ground := Ground.phase }, { on := 3, ground := Ground.phase }], guard := none }] false))
def apRecA (fn : FuncId) (sv : Value) (Bs D : Nat) (st : LoopState) (pend : Option Code) : Loop :=
  { state := st, pending := pend, fn, tmps := #[.slice none 0 0, sv, .pointer (some ⟨Bs, 0, none⟩), undef, .slice none 0 0, undef, sv, undef, undef, undef, undef, undef, undef], params := #[7], assign := apAssignA, body := apBodyA, defers := D }
structure ApA (w0 : World) (fn : FuncId) (sv : Value) (Bs l D : Nat) (ss : List Ad) (W : World) : Prop where
  box : ∃ v, W.heap[Bs]? = some (.cells #[v] (24) (0, 0)) ∧ W.ownsRow w0.heap.size (36) 17 v ss.length (cellsA ss) ∧ (v = .slice none 0 0 ↔ ss = [])
  L : W.heap[l]? = some (.loop (apRecA fn sv Bs D .ready none))
  K : W.heap[D]? = some (.deferred (some []))
  below : Below w0.heap.size w0 W
theorem apA_abides (w0 : World) (fn : FuncId) (sv : Value) (Bs l D B : Nat) (hB : w0.heap.size ≤ B) : AbidesFrom B (ApA w0 fn sv Bs l D) := fun s W W' row h hg hrow => by
  have hrow' : ∀ r, row = some r → ∃ o : Obj, W.heap[r]? = some o ∧ o.isWalk = true := fun r e => (hrow r e).2
  obtain ⟨v, hv, hr, hn⟩ := h.box
  exact ⟨⟨v, (grownBy_keeps hg hrow' hv rfl).trans hv, ownsRow_abides_a hr hg hrow', hn⟩, (grownBy_keeps hg hrow' h.L rfl).trans h.L, (grownBy_keeps hg hrow' h.K rfl).trans h.K,
    h.below.grown hg h.below.size (fun k e => Nat.le_trans hB (hrow k e).1)⟩
set_option maxRecDepth 100000 in
set_option maxHeartbeats 2000000 in
theorem apYieldA (F : Fence) (m : Nat) (w0 : World) (fn : FuncId) (hfn : F.fn fn) (sv : Value) (Bs l D : Nat) (hBl : Bs ≠ l) (hDl : D ≠ l) (hDB : D ≠ Bs) (h0B : w0.heap.size ≤ Bs) (h0l : w0.heap.size ≤ l)
    (N : Nat) (hN : N ≤ maxLen) (hNb : N * 17 ≤ 140737488355328) (ss : List Ad) (x : Ad) (W : World) (h : ApA w0 fn sv Bs l D ss W) (hlen : ss.length < N) :
    YieldAt F m Tryz.prog l #[Ad.kv x] W fun e W' => e = .returned (.bool true) ∧ ApA w0 fn sv Bs l D (ss ++ [x]) W' ∧ KeepsWalks W W' := by
  have hne : 24 ≠ 36 := by decide
  obtain ⟨i0, hi, hz0, hz1, hz2⟩ := info_parts (show (Tryz.prog.info? 36).map (fun i => (i.zero, i.size, i.bytes)) = some (some (.agg (adrC false z16).toArray), 17, 17) by kernel_rfl)
  obtain ⟨v, hv, hrow, _⟩ := h.box
  refine ⟨fn, #[.slice none 0 0, sv, .pointer (some ⟨Bs, 0, none⟩), undef, .slice none 0 0, undef, sv, Ad.kv x, undef, undef, undef, undef, undef], apAssignA, apBodyA, by simpa [apRecA] using run_yield (P := Tryz.prog) (args := #[Ad.kv x]) h.L rfl, roundIn_of_wpIn hfn ?_⟩
  have hl : l < W.heap.size := (Array.getElem?_eq_some_iff.1 h.L).1
  have HSZ := Lib.hid x.c_sz
  have HONE := Lib.hid x.c_one
  have HCL := Lib.hid x.c_len
  have HFIT : Hid (0 + x.c.length ≤ (adrC false z16).length) := Lib.hid (by rw [x.c_len]; decide)
  have hBltW : Bs < W.heap.size := (Array.getElem?_eq_some_iff.1 hv).1
  have hDltW : D < W.heap.size := (Array.getElem?_eq_some_iff.1 h.K).1
  have hbW := h.below.size
  unfold apAssignA
  gi_wp2_with (first
    | (refine wpListIn_store_blk rfl _ _ _ rfl W.heap.size 0 36 (adrC false z16) x.c rfl rfl (Blk.new W 36 (adrC false z16)) HFIT.out HSZ.out HONE.out ?_
       intro w1 hB1 hg1
       have HB1 := Lib.hid (splice_all hB1 (by rw [HCL.out]; rfl))
       have HG1 : Hid (W.grownBy w1 none) := Lib.hid (grown_none (grown_alloc W _) (Nat.le_refl _) hg1)
       clear hB1 hg1)
    | gi_round_op_a)
  have hL1 : w1.heap[l]? = some (.loop (apRecA fn sv Bs D .ready none)) := (HG1.out.block l hl (by simp)).trans h.L
  have hbr := run_beginRound (P := Tryz.prog) hL1 rfl
  obtain ⟨W2, hW2⟩ : ∃ W2, w1.putObj l (.loop { apRecA fn sv Bs D .ready none with state := .busy }) = W2 := ⟨_, rfl⟩
  rw [hW2] at hbr
  refine ⟨W2, hbr, ?_⟩
  have hg2 : w1.grownBy W2 (some l) := by rw [← hW2]; exact grownBy_putObj_a _ _ _
  have hk2 : KeepsWalks W W2 := (KeepsWalks.of_grownBy HG1.out (fun j o e => by cases e)).trans (by rw [← hW2]; exact KeepsWalks.putObj _ hL1 rfl)
  have hv1 : w1.heap[Bs]? = some (.cells #[v] (24) (0, 0)) := (HG1.out.block Bs hBltW (by simp)).trans hv
  have hK1 : w1.heap[D]? = some (.deferred (some [])) := (HG1.out.block D hDltW (by simp)).trans h.K
  have hrow1 : w1.ownsRow w0.heap.size (36) 17 v ss.length (cellsA ss) := hrow.kept HG1.out (by simp; exact Classical.em _)
  have hv2 : W2.heap[Bs]? = some (.cells #[v] (24) (0, 0)) := by rw [← hW2]; exact (World.putObj_heap_other hBl).trans hv1
  have hK2 : W2.heap[D]? = some (.deferred (some [])) := by rw [← hW2]; exact (World.putObj_heap_other hDl).trans hK1
  have hL2 : W2.heap[l]? = some (.loop { apRecA fn sv Bs D .ready none with state := .busy }) := by rw [← hW2]; exact World.putObj_heap_same (Array.getElem?_eq_some_iff.1 hL1).1
  have hrow2 : W2.ownsRow w0.heap.size (36) 17 v ss.length (cellsA ss) := hrow1.kept hg2 (ownsRow_ne_a hrow1 hL1 (fun cur e => by cases e))
  have hb2 : Below w0.heap.size w0 W2 := (h.below.grown HG1.out hbW (fun k e => by cases e)).grown hg2 (Nat.le_trans hbW HG1.out.size) (fun k e => by cases e; exact h0l)
  have HB2 : Hid (Blk W2 W.heap.size 36 x.c) := Lib.hid (HB1.out.ofGrown hg2 (by intro e; injection e with e; omega))
  have hBlt : Bs < W2.heap.size := (Array.getElem?_eq_some_iff.1 hv2).1
  have hl2 : l < W2.heap.size := (Array.getElem?_eq_some_iff.1 hL2).1
  have hDlt : D < W2.heap.size := (Array.getElem?_eq_some_iff.1 hK2).1
  have ne_of : ∀ {j : Nat} {o : Obj}, W2.heap[j]? = some o → (∀ cur, o ≠ .cells cur (36) (0, 0)) → some j ≠ v.ownBlock := fun hj hno => by
    rcases ownsRow_ne_a hrow2 hj hno with e | e
    · rw [e]; simp
    · exact fun e' => e e'.symm
  obtain ⟨hc2, hf2⟩ := cell_of_box_a hv2
  clear hW2 hbr
  unfold apBodyA
  gi_wp2_with (first
    | (refine wpListIn_load_blk rfl _ _ rfl W.heap.size 0 rfl 36 x.c x.c _ HB2.out (List.take_of_length_le (Nat.le_refl _)) Tryz.underlying36 rfl HSZ.out ?_)
    | (refine wpListIn_build1 Tryz.elA rfl _ rfl x.c rfl HCL.out (by decide) (by decide) ?_)
    | (gi_at_builtin; refine wpListIn_append_own _ rfl _ _ (24) rfl w0.heap.size (36) i0 (.agg (adrC false z16).toArray) 17 17 Tryz.underlying24 hi hz0 hz1 hz2 rfl (by decide) _ _ _ rfl (hrow2.alloc _) ⟨W2.heap.size, 0, none⟩ 1 1 x.c rfl HCL.out (cells_new _ _ _) HONE.out (by omega) (by omega) (by have := hb2.size; simp; omega) ?_; intro v' w3 hown' hg3 hnil3
       have hv3 : w3.heap[Bs]? = some (.cells #[v] (24) (0, 0)) := (hg3.block Bs (by simp; omega) (ne_of hv2 (fun cur e => hne (Obj.cells.inj e).2.1))).trans ((Below.heap_alloc _ _ Bs hBlt).trans hv2)
       obtain ⟨hc3, hf3⟩ := cell_of_box_a hv3
       obtain ⟨g', cap', cur', rfl, hbase', hgb', hr1, hr2, hr3, hr4⟩ : ∃ g' cap' cur', v' = .slice (some ⟨g', 0, none⟩) (ss.length + 1) cap' ∧ w0.heap.size ≤ g' ∧ w3.heap[g']? = some (.cells cur' (36) (0, 0)) ∧ ss.length + 1 ≤ cap' ∧ cap' ≤ maxLen ∧ cur'.size = cap' * 17 ∧ cur'.toList.take ((ss.length + 1) * 17) = cellsA ss ++ x.c := by
         rcases hown'.2 with ⟨_, h0⟩ | h'
         · exact absurd h0 (by omega)
         · exact h'
       go_frame)
    | gi_round_op_a)
  have hg3' : (W2.alloc (.cells x.c.toArray (36) (0, 0))).grownBy w3 v.ownBlock := hg3
  have hL3 : w3.heap[l]? = some (.loop { apRecA fn sv Bs D .ready none with state := .busy }) := (hg3'.block l (by simp; omega) (ne_of hL2 (fun cur e => by cases e))).trans ((Below.heap_alloc _ _ l hl2).trans hL2)
  have hK3 : w3.heap[D]? = some (.deferred (some [])) := (hg3'.block D (by simp; omega) (ne_of hK2 (fun cur e => by cases e))).trans ((Below.heap_alloc _ _ D hDlt).trans hK2)
  obtain ⟨w4, hw4⟩ : ∃ w4, w3.setCell ⟨Bs, 0, none⟩ (.slice (some ⟨g', 0, none⟩) (ss.length + 1) cap') = w4 := ⟨_, rfl⟩
  rw [hw4]
  have hg4 : w3.grownBy w4 (some Bs) := by rw [← hw4]; exact grownBy_setCell0_a _ _ _
  have hv4 : w4.heap[Bs]? = some (.cells #[.slice (some ⟨g', 0, none⟩) (ss.length + 1) cap'] (24) (0, 0)) := by rw [← hw4]; exact heap_setCell_box_a _ hv3
  have hL4 : w4.heap[l]? = some (.loop { apRecA fn sv Bs D .ready none with state := .busy }) := (hg4.block l (Array.getElem?_eq_some_iff.1 hL3).1 (fun e => hBl (by cases e; rfl))).trans hL3
  have hK4 : w4.heap[D]? = some (.deferred (some [])) := (hg4.block D (Array.getElem?_eq_some_iff.1 hK3).1 (fun e => hDB (by cases e; rfl))).trans hK3
  have hrow4 := hown'.kept hg4 (ownsRow_ne_a hown' hv3 (fun cur e => hne (Obj.cells.inj e).2.1))
  have hl4 : l < w4.heap.size := (Array.getElem?_eq_some_iff.1 hL4).1
  have hb3 : Below w0.heap.size w0 w3 := (hb2.alloc hb2.size _).grown hg3' (by have := hb2.size; simp; omega) (fun k e => (hrow2.lt k e).1)
  have hb4 : Below w0.heap.size w0 w4 := hb3.grown hg4 hb3.size (fun k e => by cases e; exact h0B)
  have hk4 : KeepsWalks W w4 := ((hk2.trans (KeepsWalks.alloc _ _)).trans (KeepsWalks.of_grownBy hg3' (ownsRow_not_walk_a (hrow2.alloc _)))).trans (by rw [← hw4]; exact KeepsWalks.setCell _ _ _)
  clear hw4
  refine ⟨_, _, run_endRound none hL4, rfl, ⟨⟨_, (World.putObj_heap_other hBl).trans hv4, ?_, by simp⟩, World.putObj_heap_same hl4, (World.putObj_heap_other hDl).trans hK4, hb4.grown (grownBy_putObj_a _ _ _) hb4.size (fun k e => by cases e; exact h0l)⟩, hk4.trans (KeepsWalks.putObj _ hL4 rfl)⟩
  have := hrow4.kept (grownBy_putObj_a w4 l (.loop { { apRecA fn sv Bs D .ready none with state := .busy } with state := if (none : Option Code).isNone then .ready else .done, pending := none })) (ownsRow_ne_a hrow4 hL4 (fun cur e => by cases e))
  rw [List.length_append, cellsA_app]
  have e1 : cellsA [x] = x.c := by simp [cellsA]
  rw [e1]
  exact this
set_option maxRecDepth 100000 in
set_option maxHeartbeats 2000000 in
theorem appendSeqA_in (F : Fence) (n : Nat) (h11 : F.fn 142) (hro : F.round = none) (hn : 2 ≤ n) (g : Nat) (lb : Array Value) (hFg : F.fn g) (eg : ∀ args w, (callFunc g args).run Tryz.prog w = .ok (.enter g args) w)
    (S : List Ad → Prop) (N : Nat) (hN : N ≤ maxLen) (hNb : N * 17 ≤ 140737488355328) (w : World) (hseq : SeqGives F (n - 1) Tryz.prog g lb Ad.kv S N w) :
    CallsIn F n Tryz.prog 142 #[.slice none 0 0, .func (.func g) #[] lb] w fun e w' => ∃ (v : Value) (ss : List Ad), e = .returned v ∧ S ss ∧ w'.ownsRow w.heap.size (36) 17 v ss.length (cellsA ss) ∧ Below w.heap.size w w' := by
  have h1 : 1 ≤ n := by omega
  have hne : 24 ≠ 36 := by decide
  have FG := Tryz.func142
  refine callsIn_of_wp_marks FG rfl h11 ?_ hro
  simp only [Tryz.ntmps142, List.size_toArray, List.length_cons, List.length_nil, Nat.reduceAdd, Nat.reduceSub, Array.replicate_succ, Array.replicate_zero, List.push_toArray, List.append_toArray, List.nil_append, List.cons_append]
  gi_wp2
  refine wpIn_rangeFunc ?_
  intro fn hfn
  rw [hro]
  obtain ⟨W0, hW0⟩ : ∃ W0, w.alloc (.cells #[.slice none 0 0] (24)) = W0 := ⟨_, rfl⟩
  have hs0 : W0.heap.size = w.heap.size + 1 := by rw [← hW0]; simp
  have hv0 : W0.heap[w.heap.size]? = some (.cells #[.slice none 0 0] (24) (0, 0)) := by rw [← hW0]; exact World.alloc_heap_new w _
  have hb0 : Below w.heap.size w W0 := by rw [← hW0]; exact (Below.refl _ w).alloc (Nat.le_refl _) _
  rw [hW0]
  obtain ⟨W1, hW1⟩ : ∃ W1, (W0.alloc (.deferred (some []))).alloc (.loop (apRecA fn (.func (.func g) #[] lb) w.heap.size W0.heap.size .ready none)) = W1 := ⟨_, rfl⟩
  have hold : ∀ k, k < W0.heap.size → W1.heap[k]? = W0.heap[k]? := fun k hk => by
    rw [← hW1]; exact (Below.heap_alloc _ _ k (by simp; omega)).trans (Below.heap_alloc _ _ k hk)
  have hb1 : Below w.heap.size w W1 := by rw [← hW1]; exact (hb0.alloc hb0.size _).alloc (by have := hb0.size; simp; omega) _
  have hs1 : W1.heap.size = W0.heap.size + 2 := by rw [← hW1]; simp
  have hM : ApA w fn (.func (.func g) #[] lb) w.heap.size (W0.heap.size + 1) W0.heap.size [] W1 :=
    ⟨⟨_, (hold w.heap.size (by omega)).trans hv0, ⟨rfl, .inl ⟨rfl, rfl⟩⟩, by simp⟩,
     by rw [← hW1]; have := World.alloc_heap_new (W0.alloc (.deferred (some []))) (.loop (apRecA fn (.func (.func g) #[] lb) w.heap.size W0.heap.size .ready none)); rwa [World.size_alloc] at this,
     by rw [← hW1]; exact (Below.heap_alloc _ _ _ (by simp)).trans (World.alloc_heap_new W0 _), hb1⟩
  refine ⟨W0.heap.size + 1, [{ target := .collected W0.heap.size, args := #[] }], W1, { target := .fn (.func g) lb, args := #[.func (.yield (W0.heap.size + 1)) #[] #[]] }, W1, g,
    #[.func (.yield (W0.heap.size + 1)) #[] #[]] ++ lb, W1, ?_, ?_, ?_, ?_, fun _ => h1, ?_⟩
  · rw [← hW1]; exact run_enterLoop_outer _ _ _ _ _
  · simp [resolve, go_sem]
  · intro f' hf'; simp [Target.leads] at hf'; subst hf'; exact hFg
  · simp [invoke, go_sem, eg]
  · refine (hseq (W0.heap.size + 1) (ApA w fn (.func (.func g) #[] lb) w.heap.size (W0.heap.size + 1) W0.heap.size) W1 hb1 (apA_abides _ _ _ _ _ _ _ hb1.size)
      (fun pre x W hJ hl => apYieldA F (n - 1 - 1) w fn hfn _ w.heap.size (W0.heap.size + 1) W0.heap.size (by omega) (by omega) (by omega) (Nat.le_refl _) (by omega) N hN hNb pre x W hJ hl) hM).mono ?_
    rintro e W2 ⟨⟨v0, rfl⟩, ss, hS, h2⟩
    obtain ⟨v, hv, hrow, hnil⟩ := h2.box
    have hend := run_endLoop (P := Tryz.prog) h2.L (by simp [apRecA])
    obtain ⟨W3, hW3⟩ : ∃ W3, W2.putObj (W0.heap.size + 1) (.loop { apRecA fn (.func (.func g) #[] lb) w.heap.size W0.heap.size .ready none with state := .exhausted }) = W3 := ⟨_, rfl⟩
    rw [hW3] at hend
    have hg3 : W2.grownBy W3 (some (W0.heap.size + 1)) := by rw [← hW3]; exact grownBy_putObj_a _ _ _
    have hv3 : W3.heap[w.heap.size]? = some (.cells #[v] (24) (0, 0)) := by rw [← hW3]; exact (World.putObj_heap_other (by omega)).trans hv
    have hK3 : W3.heap[W0.heap.size]? = some (.deferred (some [])) := by rw [← hW3]; exact (World.putObj_heap_other (by omega)).trans h2.K
    have hrow3 := hrow.kept hg3 (ownsRow_ne_a hrow h2.L (fun cur e => by cases e))
    have hb3 : Below w.heap.size w W3 := h2.below.grown hg3 h2.below.size (fun k e => by cases e; omega)
    obtain ⟨hc3, hf3⟩ := cell_of_box_a hv3
    clear hW3
    refine ⟨none, W3, hend, ?_⟩
    gi_wp2
    rw [← hs0]
    refine ⟨by simp, .inl ⟨_, _, rfl, run_takeDeferred hK3, ?_⟩⟩
    exact ⟨_, results_tmp rfl _ _ _, v, ss, rfl, hS, hrow3.kept (grownBy_putObj_a _ _ _) (ownsRow_ne_a hrow3 hK3 (fun cur e => by cases e)), hb3.grown (grownBy_putObj_a _ _ _) hb3.size (fun k e => by cases e; omega)⟩
set_option maxHeartbeats 1000000 in
theorem collectA_in (F : Fence) (n : Nat) (h8 : F.fn 119) (h11 : F.fn 142) (hro : F.round = none) (hn : 3 ≤ n) (g : Nat) (lb : Array Value) (hFg : F.fn g) (eg : ∀ args w, (callFunc g args).run Tryz.prog w = .ok (.enter g args) w)
    (S : List Ad → Prop) (N : Nat) (hN : N ≤ maxLen) (hNb : N * 17 ≤ 140737488355328) (w : World) (hseq : SeqGives F (n - 1 - 1) Tryz.prog g lb Ad.kv S N w) :
    CallsIn F n Tryz.prog 119 #[.func (.func g) #[] lb] w fun e w' => ∃ (v : Value) (ss : List Ad), e = .returned v ∧ S ss ∧ w'.ownsRow w.heap.size (36) 17 v ss.length (cellsA ss) ∧ Below w.heap.size w w' := by
  have h1 : 1 ≤ n := by omega
  have e11 : ∀ args w, (callFunc 142 args).run Tryz.prog w = .ok (.enter 142 args) w := enters_of Tryz.func142 (by kernel_rfl) rfl
  have FG := Tryz.func119
  refine callsIn_of_wp FG rfl h8 ?_ hro
  simp only [Tryz.ntmps119, List.size_toArray, List.length_cons, List.length_nil, Nat.reduceAdd, Nat.reduceSub, Array.replicate_succ, Array.replicate_zero, List.push_toArray, List.append_toArray, List.nil_append, List.cons_append]
  gi_wp2_with (gi_at_call 142; refine (appendSeqA_in F (n - 1) h11 hro (by omega) g lb hFg eg S N hN hNb _ hseq).mono ?_; rintro e w' ⟨v, ss, rfl, hS, hrow, hb⟩)
  go_ret
  exact ⟨v, ss, rfl, hS, hrow, hb⟩
theorem RowA.ofOwns {w : World} {base : Nat} {v : Value} {l : List Ad} (h : w.ownsRow base 36 17 v l.length (cellsA l)) : RowA w (fun k => base ≤ k) v l := by
  obtain ⟨hl, h⟩ := h
  rcases h with ⟨rfl, h0⟩ | ⟨g, cap, cur, rfl, hb, hg, r⟩
  · exact ⟨⟨hl, .inl ⟨rfl, h0⟩⟩, fun g hg => by simp [Value.ownBlock] at hg⟩
  · exact ⟨⟨hl, .inr ⟨g, cap, cur, rfl, Nat.zero_le _, hg, r⟩⟩, fun g' hg' => by simp [Value.ownBlock] at hg'; exact hg' ▸ hb⟩
set_option maxRecDepth 100000 in
theorem keysFA (b : Nat) (w : World) : Calls Tryz.prog 80 #[.map (some b)] w fun e w' => e = .returned (.func (.func 121) #[] #[.pointer (some ⟨w.heap.size, 0, none⟩)]) ∧ w' = w.alloc (.cells #[.map (some b)] 108 (0, 0)) := by
  go_enter Tryz.func80, Tryz.ntmps80
  go_wp2
  go_ret
  exact ⟨rfl, rfl⟩
set_option maxRecDepth 100000 in
set_option maxHeartbeats 4000000 in
theorem sortedFA (Bm b : Nat) (m : List (Ad × Value)) (hv : ∀ p ∈ m, PtrV p.2) (hl : m.length ≤ 5000) (w : World) (hBm : Bm < w.heap.size) (hm : w.cell? ⟨Bm, 0, none⟩ = some (.map (some b))) (hma : Ma w b m) :
    Calls Tryz.prog 79 #[.func (.func 121) #[] #[.pointer (some ⟨Bm, 0, none⟩)], .func (.func 81) #[] #[]] w fun e w' => ∃ v l, e = .returned v ∧ l.Perm (m.map (·.1)) ∧ (l.Pairwise fun a b => a.rk ≤ b.rk) ∧ RowA w' (fun k => w.heap.size ≤ k) v l ∧ Mod (fun _ => False) w w' := by
  obtain ⟨ml, hown, hperm⟩ := hma.owns (H := Unit) hv (by unfold maxLen; omega)
  have hs := keysA_gives 1 (by omega) Bm b m.length m hv hma.nd ml hperm w hBm hm hown
  have HA := Lib.hid ((callsIn_wide (n := 3)).1 (collectA_in Fence.wide 3 trivial trivial rfl (by omega) 121 #[.pointer (some ⟨Bm, 0, none⟩)] trivial (enters_of Tryz.func121 (by kernel_rfl) rfl) _ m.length (by unfold maxLen; omega) (by omega) w hs))
  clear hs hown hperm hma hm
  go_enter Tryz.func79, Tryz.ntmps79
  go_wp2_with (go_at_call 119; refine HA.out.mono ?_; rintro e w1 ⟨v, ss, rfl, hS, hrow, hb⟩)
  have hll : ss.length ≤ 5000 := by rw [hS.length_eq, List.length_map]; exact hl
  have HR := Lib.hid (RowA.ofOwns hrow)
  have HS := Lib.hid hS
  have HM := Lib.hid (Mod.ofBelow hb)
  clear hS hrow hb
  refine (Sort_any HR.out hll).mono ?_
  rintro e w2 ⟨rfl, l', hp, hs, hr, hm2⟩
  have HP := Lib.hid hp
  have HO := Lib.hid hs
  have HE := Lib.hid hr
  have HM2 : Hid (Mod (fun _ => False) w w2) := Lib.hid (HM.out.trans hm2 fun k hk => .inr (HR.out.2 k hk))
  clear hp hs hr hm2
  go_wp2
  go_ret
  exact ⟨v, l', rfl, HP.out.trans HS.out, HO.out, HE.out, HM2.out⟩
end Go.Proofs.YtcccdlmngddalaaGreat
namespace Go.Proofs.YtcccdlmngddalaaGreat
open Go.RowKit Go.Sort
theorem settle_twice {G : Gs} (h1 : AS G.on) (h2 : AS G.off) {m n : Int} (hmn : m ≤ n) : settleG (settleG G m) n = settleG G n := by
  have hw : nowG (settleG G m) n = nowG G n := by
    show max (max G.now (min m 1000000000000)) (min n 1000000000000) = max G.now (min n 1000000000000)
    omega
  have hle : nowG G m ≤ nowG G n := by unfold nowG; omega
  have hT : updn (updn G.T (nowG G m)) (nowG G n) = updn G.T (nowG G n) := by
    funext a
    unfold updn
    cases hx : G.T a with
    | none => rfl
    | some t =>
      simp only
      by_cases c1 : t ≤ nowG G m
      · rw [if_pos c1, if_pos (by omega)]
      · rw [if_neg c1]
  have hd : ∀ a, dueB (updn G.T (nowG G m)) (nowG G n) a = (dueB G.T (nowG G n) a && !dueB G.T (nowG G m) a) := fun a => by
    unfold dueB updn
    cases hx : G.T a with
    | none => rfl
    | some t =>
      simp only
      by_cases c1 : t ≤ nowG G m
      · rw [if_pos c1]
        simp [c1]
      · rw [if_neg c1]
        simp [c1]
  have hmono : ∀ a, dueB G.T (nowG G m) a = true → dueB G.T (nowG G n) a = true := fun a ha => by
    obtain ⟨t, ht, hl⟩ := dueB_iff.1 ha
    exact dueB_iff.2 ⟨t, ht, by omega⟩
  have hon : (G.on.filter fun a => !dueB G.T (nowG G m) a).filter (fun a => !dueB (updn G.T (nowG G m)) (nowG G n) a) = G.on.filter fun a => !dueB G.T (nowG G n) a := by
    rw [List.filter_filter]
    refine List.filter_congr fun a _ => ?_
    rw [hd]
    have := hmono a
    cases e1 : dueB G.T (nowG G m) a <;> cases e2 : dueB G.T (nowG G n) a <;> simp_all
  have has := h1.filter fun a => dueB G.T (nowG G m) a
  have hoff : orA (orA G.off (G.on.filter fun a => dueB G.T (nowG G m) a)) ((G.on.filter fun a => !dueB G.T (nowG G m) a).filter fun a => dueB (updn G.T (nowG G m)) (nowG G n) a) = orA G.off (G.on.filter fun a => dueB G.T (nowG G n) a) := by
    have a1 := (h1.filter fun a => !dueB G.T (nowG G m) a).filter fun a => dueB (updn G.T (nowG G m)) (nowG G n) a
    have a2 := h1.filter fun a => dueB G.T (nowG G n) a
    refine AS.ext (orA_as (orA_as h2 has) a1) (orA_as h2 a2) fun a => ?_
    rw [mem_orA (orA_as h2 has) a1, mem_orA h2 has, mem_orA h2 a2, List.mem_filter, List.mem_filter, List.mem_filter, List.mem_filter, hd]
    have := hmono a
    cases e1 : dueB G.T (nowG G m) a <;> cases e2 : dueB G.T (nowG G n) a <;> simp_all
  unfold settleG at hw ⊢
  simp only at hw ⊢
  rw [hw]
  have hg : ∀ x : Gs, goneG x n = (x.ex && decide (x.till ≤ nowG x n)) := fun _ => rfl
  simp only [hg, hw]
  have hgm : goneG G m = (G.ex && decide (G.till ≤ nowG G m)) := rfl
  simp only [hgm]
  rw [hT, hon]
  cases hex : G.ex with
  | false => simp
  | true =>
    by_cases c1 : G.till ≤ nowG G m
    · have c2 : G.till ≤ nowG G n := by omega
      simp [c1, c2]
    · by_cases c2 : G.till ≤ nowG G n
      · simp [c1, c2]
      · rw [List.filter_filter] at hoff
        simp [c1, c2, hoff]
end Go.Proofs.YtcccdlmngddalaaGreat
namespace Go.Proofs.YtcccdlmngddalaaGreat
open Go.RowKit
theorem isHeld {hs : List Hd} {x : Hd} (hx : x ∈ hs) {m0 : List (Ad × Value)} (hp : m0.Perm (hs.map Hd.e)) (hnd : (m0.map (·.1)).Nodup) : mgetA m0 x.a = some (.pointer (some ⟨x.p, 0, none⟩)) := by
  have h1 : x.e ∈ m0 := hp.mem_iff.2 (List.mem_map_of_mem hx)
  obtain ⟨j, hj⟩ := List.getElem?_of_mem h1
  exact (mgetA_some hnd hj).1
theorem exec_lookup_is {o : Oper} {ev : Operand → Value} {x i : Operand} (ho : o.op = .lookup 108 x i false) {b : Nat} (k : Ad) (hx : ev x = .map (some b)) (hi : ev i = .agg k.c.toArray) {w : World} {m : List (Ad × Value)} {v : Value} (hn : mgetA m k = some v) (h : Ma w b m) :
    (execOp ev o).run Tryz.prog w = .ok (.value v) w := by
  have := exec_lookup_ma (k := k) (ok := false) ho hx hi h
  rw [hn] at this
  exact this
section
variable {w : World} {pp hb : Nat} {most now : Int} {fast : Bool} {gr sr : Int} {hs : List Hd}
theorem PIn.again {w' : World} (h : PIn w pp hb most now fast gr sr hs) {x : Hd} (hx : x ∈ hs) (hm : Mod (fun k => k = x.p ∨ k = x.b) w w') (hg : GAt w' x.p x.c x.b x.G) : PIn w' pp hb most now fast gr sr hs := by
  obtain ⟨m0, hm0, hma⟩ := h.mp
  have hne := h.pne x hx
  have hgx := h.gs x hx
  refine ⟨h.blk.keep hm (fun e => e.elim hne.1 hne.2.1), ⟨m0, hm0, hma.keep hm (fun e => e.elim (fun e => hne.2.2.2.1 e.symm) (fun e => h.hb x hx e.symm))⟩, fun y hy => ?_, h.np, h.nb, h.hb⟩
  by_cases hp : y.p = x.p
  · obtain rfl := inj_of_nodup h.np y hy x hx hp
    exact hg
  · by_cases hbb : y.b = x.b
    · obtain rfl := inj_of_nodup h.nb y hy x hx hbb
      exact hg
    · exact gfar2 (h.gs y hy) hgx hm hp hbb
end
theorem setHs_twice {hs : List Hd} (ok : HdOk hs) {n : Int} {x : Hd} (hx : x ∈ setHs n hs) : settleG x.G n = x.G := by
  obtain ⟨hx1, _⟩ := List.mem_filter.1 (show x ∈ (hs.map (Hd.settle n)).filter _ from hx)
  obtain ⟨y, hy, rfl⟩ := List.mem_map.1 hx1
  obtain ⟨m, _, he⟩ := ok.eg y hy
  exact settle_twice he.on he.off (Int.le_refl n)
theorem setHs_sub {n : Int} {hs : List Hd} {x : Hd} (hx : x ∈ setHs n hs) : ∃ y ∈ hs, x = y.settle n := by
  obtain ⟨hx1, _⟩ := List.mem_filter.1 (show x ∈ (hs.map (Hd.settle n)).filter _ from hx)
  obtain ⟨y, hy, rfl⟩ := List.mem_map.1 hx1
  exact ⟨y, hy, rfl⟩
theorem setHs_pf {n : Int} {pp hb : Nat} {hs : List Hd} {x : Hd} (hx : x ∈ setHs n hs) : PF pp hb hs x.p ∧ PF pp hb hs x.b := by
  obtain ⟨y, hy, rfl⟩ := setHs_sub hx
  exact ⟨.inr (.inr ⟨y, hy, .inl rfl⟩), .inr (.inr ⟨y, hy, .inr rfl⟩)⟩
theorem PIn.pfLt {w : World} {pp hb : Nat} {most now : Int} {fast : Bool} {gr sr : Int} {hs : List Hd} (h : PIn w pp hb most now fast gr sr hs) : ∀ k, PF pp hb hs k → k < w.heap.size := fun k hk => by
  have hl := h.lts
  rcases hk with rfl | rfl | ⟨x, hx, rfl | rfl⟩
  · exact hl.1
  · exact hl.2.1
  · exact (hl.2.2 x hx).1
  · exact (hl.2.2 x hx).2.2
set_option maxRecDepth 100000 in
set_option maxHeartbeats 2000000 in
theorem ptOf {w : World} {pp hb : Nat} {most now : Int} {fast : Bool} {gr sr : Int} {hs : List Hd} (h : PIn w pp hb most now fast gr sr hs) (ok : HdOk hs) (hl : hs.length ≤ 1000) (n : Int) {n' : Int} (hn' : n' = max now (min n 1000000000000)) (x : Hd) (hx : x ∈ setHs n' hs) :
    Calls Tryz.prog 78 #[.pointer (some ⟨pp, 0, none⟩), .int .i64 n, .agg x.a.c.toArray] w fun e w' => e = .returned (.tuple #[.pointer (some ⟨x.p, 0, none⟩), .int .i64 n']) ∧ PIn w' pp hb most n' fast gr sr (setHs n' hs) ∧ Mod (PF pp hb hs) w w' := by
  have hal : Mod (fun _ => False) w (w.alloc (.cells x.a.c.toArray 36 (0, 0))) := (Mod.refl _ _).alloc _
  have HI0 := Lib.hid (h.keep0 hal)
  have HB0 := Lib.hid (Blk.new w 36 x.a.c)
  have HM0 : Hid (Mod (PF pp hb hs) w (w.alloc (.cells x.a.c.toArray 36 (0, 0)))) := Lib.hid hal.no
  have HLT := Lib.hid h.pfLt
  have HOK := Lib.hid ok
  have HN' := Lib.hid hn'
  have HX := Lib.hid hx
  have HXS := Lib.hid x.a.c_sz
  clear h ok hn' hx hal
  go_enter Tryz.func78, Tryz.ntmps78
  go_wp2_with fail
  refine (ptSettle HI0.out HOK.out hl n).mono ?_
  rw [← HN'.out]
  rintro e W1 ⟨rfl, hp1, hm1⟩
  obtain ⟨m0, hm0, hma⟩ := hp1.mp
  have HLK := Lib.hid (isHeld HX.out hm0 hma.nd)
  have HP1 := Lib.hid hp1
  have HM1 : Hid (Mod (PF pp hb hs) w W1) := Lib.hid (HM0.out.trans hm1 fun k hk => .inl hk)
  have HB1 := Lib.hid (HB0.out.keep hm1 fun f => by have := HLT.out _ f; omega)
  have hS : W1.drew.cell? ⟨pp, 3, none⟩ = some (.map (some hb)) ∧ Blk W1.drew w.heap.size 36 x.a.c ∧ Ma W1.drew hb m0 := ⟨hp1.blk.cell rfl, HB1.out, Ma.keep (F := fun _ => False) hma (Mod.refl _ _).drew fun f => f⟩
  clear hp1 hm1 hm0 hma
  go_wp2_with fail
  refine wp_region_plan [] [(0, 0), (1, 0), (2, 0), (3, 1), (4, 1), (5, 1), (6, 0), (7, 0), (8, 0)] (fun w' : World => w'.cell? ⟨pp, 3, none⟩ = some (.map (some hb)) ∧ Blk w' w.heap.size 36 x.a.c ∧ Ma w' hb m0) (by kernel_rfl) (by kernel_rfl) (fun d v c a w h => by first | (cases d <;> exact h) | exact HP d v c a w h) ?_
  repeat ((first | refine plan_skip rfl rfl ?_ | refine plan_pass2 rfl rfl ?_ | refine plan_pass3 rfl rfl ?_ | (refine plan_take (v := ?_) rfl rfl ?_ ?_; rotate_left; focus (intro w0; go_simp; try with_reducible rfl)) | (refine plan_held (v := ?_) rfl rfl hS ?_ ?_; rotate_left; focus (intro w0 hSw; (try dsimp only at hSw); go_split_ands; go_simp; try with_reducible rfl)) | refine plan_skip1 rfl rfl hS ?_); simp only [nA, nB, nC, Act.put, nD, nE, nF])
  (refine plan_held (v := .agg x.a.c.toArray) rfl rfl hS (fun w0 h0 => exec_load_blk _ _ rfl w.heap.size 0 rfl 36 x.a.c x.a.c _ w0 h0.2.1 (List.take_of_length_le (Nat.le_refl _)) Tryz.underlying36 rfl HXS.out) ?_; try simp only [nA, nB, nC, Act.put, nD, nE, nF])
  (refine plan_held (v := .pointer (some ⟨x.p, 0, none⟩)) rfl rfl hS (fun w0 h0 => exec_lookup_is rfl x.a rfl rfl HLK.out h0.2.2) ?_; try simp only [nA, nB, nC, Act.put, nD, nE, nF])
  repeat ((first | refine plan_skip rfl rfl ?_ | refine plan_pass2 rfl rfl ?_ | refine plan_pass3 rfl rfl ?_ | (refine plan_take (v := ?_) rfl rfl ?_ ?_; rotate_left; focus (intro w0; go_simp; try with_reducible rfl)) | (refine plan_held (v := ?_) rfl rfl hS ?_ ?_; rotate_left; focus (intro w0 hSw; (try dsimp only at hSw); go_split_ands; go_simp; try with_reducible rfl)) | refine plan_skip1 rfl rfl hS ?_); simp only [nA, nB, nC, Act.put, nD, nE, nF])
  refine plan_nil ?_
  go_wp2
  go_returns
  exact ⟨rfl, HP1.out.keep0 (Mod.refl _ _).drew, HM1.out.drew⟩
set_option maxRecDepth 100000 in
set_option maxHeartbeats 2000000 in
theorem ptLeft {w : World} {pp hb : Nat} {most now : Int} {fast : Bool} {gr sr : Int} {hs : List Hd} (h : PIn w pp hb most now fast gr sr hs) (ok : HdOk hs) (hl : hs.length ≤ 1000) (n : Int) {n' : Int} (hn' : n' = max now (min n 1000000000000)) (x : Hd) (hx : x ∈ setHs n' hs) :
    Calls Tryz.prog 39 #[.pointer (some ⟨pp, 0, none⟩), .int .i64 n, .agg x.a.c.toArray] w fun e w' => e = .returned (.int .i64 (if x.G.ex then x.G.till - x.G.now else 0)) ∧ PIn w' pp hb most n' fast gr sr (setHs n' hs) ∧ Mod (PF pp hb hs) w w' := by
  obtain ⟨lv, hlv⟩ : ∃ lv : Int, lv = if x.G.ex then x.G.till - x.G.now else 0 := ⟨_, rfl⟩
  have HLV := Lib.hid hlv
  rw [← hlv]
  clear hlv
  have hal : Mod (fun _ => False) w (w.alloc (.cells x.a.c.toArray 36 (0, 0))) := (Mod.refl _ _).alloc _
  have HI0 := Lib.hid (h.keep0 hal)
  have HB0 := Lib.hid (Blk.new w 36 x.a.c)
  have HM0 : Hid (Mod (PF pp hb hs) w (w.alloc (.cells x.a.c.toArray 36 (0, 0)))) := Lib.hid hal.no
  have HLT := Lib.hid h.pfLt
  have HOK := Lib.hid ok
  have HN' := Lib.hid hn'
  have HX := Lib.hid hx
  have HXS := Lib.hid x.a.c_sz
  clear h ok hn' hx hal
  go_enter Tryz.func39, Tryz.ntmps39
  go_wp2_with (first
    | (refine wpList_load_blk rfl _ _ rfl w.heap.size 0 rfl 36 x.a.c x.a.c _ HB0.out (List.take_of_length_le (Nat.le_refl _)) Tryz.underlying36 rfl HXS.out ?_))
  refine (ptOf HI0.out HOK.out hl n HN'.out x HX.out).mono ?_
  rintro e W1 ⟨rfl, hp1, hm1⟩
  have HP1 := Lib.hid hp1
  have HM1 : Hid (Mod (PF pp hb hs) w W1) := Lib.hid (HM0.out.trans hm1 fun k hk => .inl hk)
  obtain ⟨m, hmb, he⟩ := (HOK.out.set n').eg x HX.out
  have HE := Lib.hid he
  have HG := Lib.hid (hp1.gs x HX.out)
  have HTW := Lib.hid (setHs_twice HOK.out HX.out)
  clear hp1 hm1 he
  go_wp2_with fail
  refine (gLeft sortOk HG.out (HE.out.ok (by omega) hmb) n' (HE.out.dueN _)).mono ?_
  rw [HTW.out, ← HLV.out]
  rintro e W2 ⟨rfl, hg2, hm2⟩
  have HP2 := Lib.hid (HP1.out.again HX.out hm2 hg2)
  have HM2 : Hid (Mod (PF pp hb hs) w W2) := Lib.hid (HM1.out.trans hm2 fun k hk => .inl (hk.elim (fun e => e ▸ (setHs_pf HX.out).1) fun e => e ▸ (setHs_pf HX.out).2))
  clear hg2 hm2
  go_wp2
  go_ret
  exact ⟨rfl, HP2.out, HM2.out⟩
theorem wp_buildSlice1 {P : Program} {o : Oper} {a : Act} {w : World} {K : Act → World → Prop} {Q : Exit → Act → World → Prop} {t e : TypeId} {z : Value} {size bytes : Nat} (E : Elem P t e z size bytes) (x : Operand) (ho : o.op = .buildSlice t 1 #[(0, x)]) (cs : List Value) (hx : a.eval x = .agg cs.toArray)
    (hl : cs.length = size) (h0 : 0 < size) (hs : size ≤ 1000) (h : K (a.put o.dst (.slice (some ⟨w.heap.size, 0, none⟩) 1 1)) (w.alloc (.cells cs.toArray e (0, 0)))) : o.wp P a w K Q := by
  have hr := run_buildSlice1 E cs hl h0 hs w
  unfold Oper.wp
  simp [execOp, ho, hx, hr, Result.andThen]
  exact h
structure HE where
  a : Ad
  ex : Bool
  a1 : Option Addr
  n1 : Nat
  k1 : Nat
  a2 : Option Addr
  n2 : Nat
  k2 : Nat
def HE.c (h : HE) : List Value := h.a.c ++ [.bool h.ex, .slice h.a1 h.n1 h.k1, .slice h.a2 h.n2 h.k2]
theorem HE.c_len (h : HE) : h.c.length = 20 := by unfold HE.c; rw [List.length_append, h.a.c_len]; rfl
theorem HE.c_one (h : HE) : ∀ u ∈ h.c, u.oneCell' = true := fun u hu => by
  rcases List.mem_append.1 hu with hu | hu
  · exact h.a.c_one u hu
  · simp at hu
    rcases hu with rfl | rfl | rfl <;> rfl
def cellsH (l : List HE) : List Value := l.flatMap HE.c
theorem cellsH_get : ∀ {l : List HE} {i : Nat} {h : HE}, l[i]? = some h → ∀ t u, h.a.c[t]? = some u → (cellsH l)[i * 20 + t]? = some u
  | [], i, h, e, _, _, _ => by simp at e
  | x :: l, 0, h, e, t, u, hu => by
    simp at e
    subst e
    show (x.c ++ cellsH l)[0 * 20 + t]? = _
    have ht : t < x.a.c.length := (List.getElem?_eq_some_iff.1 hu).1
    rw [Nat.zero_mul, Nat.zero_add, List.getElem?_append_left (by unfold HE.c; rw [List.length_append]; omega)]
    show (x.a.c ++ _)[t]? = _
    rw [List.getElem?_append_left ht]
    exact hu
  | x :: l, i + 1, h, e, t, u, hu => by
    rw [List.getElem?_cons_succ] at e
    show (x.c ++ cellsH l)[(i + 1) * 20 + t]? = _
    rw [List.getElem?_append_right (by rw [x.c_len]; omega), x.c_len, show (i + 1) * 20 + t - 20 = i * 20 + t by omega]
    exact cellsH_get e t u hu
abbrev zHeld : List Value := [.bool false, .int .u8 0, .int .u8 0, .int .u8 0, .int .u8 0, .int .u8 0, .int .u8 0, .int .u8 0, .int .u8 0, .int .u8 0, .int .u8 0, .int .u8 0, .int .u8 0, .int .u8 0, .int .u8 0, .int .u8 0, .int .u8 0, .bool false, .slice none 0 0, .slice none 0 0]
theorem elH : Elem Tryz.prog 81 84 (.agg zHeld.toArray) 20 80 := .mk' Tryz.underlying81 (by kernel_rfl) rfl
theorem bldHeld (g : Ad) : g.c.zipIdx.foldl (fun (cs : Array Value) (x : Value × Nat) => cs.setIfInBounds x.2 x.1) #[.bool false, .int .u8 0, .int .u8 0, .int .u8 0, .int .u8 0, .int .u8 0, .int .u8 0, .int .u8 0, .int .u8 0, .int .u8 0, .int .u8 0, .int .u8 0, .int .u8 0, .int .u8 0, .int .u8 0, .int .u8 0, .int .u8 0, .bool false, .slice none 0 0, .slice none 0 0] = (g.c ++ ([.bool false, .slice none 0 0, .slice none 0 0] : List Value)).toArray := by
  have := foldl_at 0 g.c 0 #[.bool false, .int .u8 0, .int .u8 0, .int .u8 0, .int .u8 0, .int .u8 0, .int .u8 0, .int .u8 0, .int .u8 0, .int .u8 0, .int .u8 0, .int .u8 0, .int .u8 0, .int .u8 0, .int .u8 0, .int .u8 0, .int .u8 0, .bool false, .slice none 0 0, .slice none 0 0] (by rw [g.c_len]; decide)
  simp only [Nat.zero_add] at this
  rw [this, g.c_len]
  rfl
theorem Row.notA {w : World} {f : Nat → Prop} {e : TypeId} {sz n : Nat} {v : Value} {xs : List Value} (h : Row w f e sz v n xs) (he : e ≠ 36) : NotA w (fun k => v.ownBlock = some k) := fun k hk cur z hc => by
  obtain ⟨⟨_, h1⟩, _⟩ := h
  rcases h1 with ⟨rfl, _⟩ | ⟨g, cap, cur', rfl, _, hg, _⟩
  · simp [Value.ownBlock] at hk
  · simp [Value.ownBlock] at hk
    subst hk
    rw [hg] at hc
    injection hc with hc
    injection hc with _ h2
    exact he h2
theorem PIn.notA1 {w : World} {pp hb : Nat} {most now : Int} {fast : Bool} {gr sr : Int} {hs : List Hd} (h : PIn w pp hb most now fast gr sr hs) {x : Hd} (hx : x ∈ hs) : NotA w (fun k => k = x.p ∨ k = x.b) := by
  obtain ⟨_, _, _, _, _, _, _, hh⟩ := h.gs x hx
  exact hh.notA
set_option maxRecDepth 100000 in
set_option maxHeartbeats 4000000 in
theorem ptHeld {w : World} {pp hb : Nat} {most now : Int} {fast : Bool} {gr sr : Int} {hs : List Hd} (h : PIn w pp hb most now fast gr sr hs) (ok : HdOk hs) (hl : hs.length ≤ 1000) (n : Int) {n' : Int} (hn' : n' = max now (min n 1000000000000)) :
    Calls Tryz.prog 38 #[.pointer (some ⟨pp, 0, none⟩), .int .i64 n] w fun e w' => ∃ (v : Value) (L : List HE), e = .returned v ∧ (L.map (·.a)).Perm ((setHs n' hs).map (·.a)) ∧ ((L.map (·.a)).Pairwise fun a b => a.rk ≤ b.rk) ∧ Row w' (fun q => w.heap.size ≤ q) 84 20 v L.length (cellsH L) ∧ PIn w' pp hb most n' fast gr sr (setHs n' hs) ∧ Mod (PF pp hb hs) w w' := by
  have HI0 := Lib.hid h
  have HLT := Lib.hid h.lts
  have HOK := Lib.hid ok
  have HN' := Lib.hid hn'
  obtain ⟨hs1, hhs⟩ : ∃ hs1, hs1 = setHs n' hs := ⟨_, rfl⟩
  have HHS := Lib.hid hhs
  rw [← hhs]
  clear h ok hn' hhs
  go_enter Tryz.func38, Tryz.ntmps38
  go_wp2_with fail
  refine (ptSettle HI0.out HOK.out hl n).mono ?_
  rw [← HN'.out]
  rintro e W1 ⟨rfl, hp1, hm1⟩
  have hhs := HHS.out
  have HOK1 : Hid (HdOk hs1) := Lib.hid (hhs ▸ HOK.out.set n')
  have HL1 : Hid (hs1.length ≤ 1000) := Lib.hid (hhs ▸ Nat.le_trans (setHs_len n' hs) hl)
  have HTW : Hid (∀ x ∈ hs1, settleG x.G n' = x.G) := Lib.hid fun x hx => setHs_twice HOK.out (hhs ▸ hx)
  have HPFS : Hid (∀ x ∈ hs1, PF pp hb hs x.p ∧ PF pp hb hs x.b) := Lib.hid fun x hx => by
    rw [hhs] at hx
    obtain ⟨hx1, _⟩ := List.mem_filter.1 (show x ∈ (hs.map (Hd.settle n')).filter _ from hx)
    obtain ⟨y, hy, rfl⟩ := List.mem_map.1 hx1
    exact ⟨.inr (.inr ⟨y, hy, .inl rfl⟩), .inr (.inr ⟨y, hy, .inr rfl⟩)⟩
  have HL1T : Hid (∀ x ∈ hs1, x.p < w.heap.size ∧ x.c < w.heap.size ∧ x.b < w.heap.size) := Lib.hid fun x hx => by
    rw [hhs] at hx
    obtain ⟨y, hy, rfl⟩ := setHs_sub hx
    exact HLT.out.2.2 y hy
  rw [← hhs] at hp1
  have HP1 := Lib.hid hp1
  have HM1 := Lib.hid hm1
  have HPF : Hid (∀ k, PF pp hb hs k → k < w.heap.size) := Lib.hid fun k hk => by
    rcases hk with rfl | rfl | ⟨x, hx, rfl | rfl⟩
    · exact HLT.out.1
    · exact HLT.out.2.1
    · exact (HLT.out.2.2 x hx).1
    · exact (HLT.out.2.2 x hx).2.2
  have c3 : W1.cell? ⟨pp, 3, none⟩ = some (.map (some hb)) := hp1.blk.cell rfl
  obtain ⟨m0, hm0, hma0⟩ := hp1.mp
  have HPM := Lib.hid hm0
  have HMA1 := Lib.hid hma0
  have HPV : Hid (∀ p ∈ m0, PtrV p.2) := Lib.hid fun p hp => by
    obtain ⟨x, _, rfl⟩ := List.mem_map.1 (hm0.mem_iff.1 hp)
    exact ⟨_, rfl⟩
  have HML : Hid (m0.length ≤ 1000) := Lib.hid (by have := hm0.length_eq; rw [List.length_map] at this; have := HL1.out; omega)
  have HKS : Hid ((m0.map (·.1)).Perm (hs1.map (·.a))) := Lib.hid (by
    have := hm0.map (·.1)
    rwa [List.map_map] at this)
  clear hp1 hm1 hm0 hma0 hhs HI0
  go_wp2_with fail
  refine (keysFA hb _).mono ?_
  rintro e W2 ⟨rfl, hw2⟩
  have hm2 : Mod (fun _ => False) W1 W2 := by rw [hw2]; exact (Mod.refl _ _).alloc _
  have HBX : Hid (W2.cell? ⟨W1.heap.size, 0, none⟩ = some (.map (some hb)) ∧ W1.heap.size < W2.heap.size) := Lib.hid (by
    rw [hw2]
    exact ⟨(Blk.new W1 108 [.map (some hb)]).cell rfl, by simp⟩)
  have HMA2 := Lib.hid (Ma.keep HMA1.out hm2 fun f => f)
  have HP2 := Lib.hid (HP1.out.keep0 hm2)
  have HM2 : Hid (Mod (PF pp hb hs) w W2) := Lib.hid (HM1.out.trans hm2 fun _ f => f.elim)
  clear hw2 hm2 HP1 HM1 HMA1
  go_wp2_with fail
  refine (sortedFA W1.heap.size hb m0 HPV.out (by have := HML.out; omega) W2 HBX.out.2 HBX.out.1 HMA2.out).mono ?_
  rintro e W3 ⟨v, l, rfl, hlp, hlo, hrow, hm3⟩
  have HR3 := Lib.hid (RowA.rt hrow)
  have HLP : Hid (l.Perm (hs1.map (·.a))) := Lib.hid (hlp.trans HKS.out)
  have HLO := Lib.hid hlo
  have HP3 := Lib.hid (HP2.out.keep0 hm3)
  have HM3 : Hid (Mod (PF pp hb hs) w W3) := Lib.hid (HM2.out.trans hm3 fun _ f => f.elim)
  obtain ⟨ad, cap, hvv, hnc, hcm, _⟩ := Row.form hrow
  subst hvv
  have hln : l.length ≤ 1000 := by
    have := HLP.out.length_eq
    rw [List.length_map] at this
    have := HL1.out
    omega
  have HLN := Lib.hid hln
  clear hrow hlp hlo hm3 hnc hcm HP2 HM2 HMA2 HBX c3
  go_wp2_with fail
  go_loopw [5, 20] (fun ov iv wr => ∃ (j : Nat) (L : List HE), j ≤ l.length ∧ iv = .int .i64 (j : Int) ∧ L.map (·.a) = l.take j ∧ Row wr (fun q => w.heap.size ≤ q) 84 20 ov L.length (cellsH L) ∧ PIn wr pp hb most n' fast gr sr hs1 ∧ RT wr (.slice ad l.length cap) l ∧ Mod (PF pp hb hs) w wr) (fun _ iv _ => l.length - (intOf iv).toNat)
  case atStart => exact ⟨0, [], Nat.zero_le _, rfl, rfl, Row.nil _ _ _ _, HP3.out, HR3.out, HM3.out⟩
  case round =>
    obtain ⟨j, L, hj, rfl, hL, hrow, hp, hrt, hmw⟩ := hrel
    clear HP3 HR3 HM3
    obtain ⟨oa, oc, hov, _⟩ := Row.form hrow
    subst hov
    have HROW := Lib.hid hrow
    have HP := Lib.hid hp
    have HRT := Lib.hid hrt
    have HMW := Lib.hid hmw
    have HLL := Lib.hid hL
    clear hrow hp hrt hmw hL
    by_cases hlt : j < l.length
    · have hlt' : (j : Int) < (l.length : Int) := by omega
      obtain ⟨x, hx⟩ : ∃ x, l[j]? = some x := ⟨_, List.getElem?_eq_getElem hlt⟩
      obtain ⟨y, hy, hya⟩ := List.mem_map.1 (HLP.out.mem_iff.1 (List.mem_of_getElem? hx))
      obtain ⟨g, o, cap', e, hc1, hc2, hra⟩ := HRT.out.rd.at hlt
      simp only [Value.slice.injEq] at e
      obtain ⟨rfl, -, rfl⟩ := e
      have HRA := Lib.hid (hra j x hx)
      have HXS := Lib.hid x.c_sz
      have HX1 := Lib.hid x.c_one
      have HXL : Hid (0 + x.c.length ≤ (adrC false z16).length) := Lib.hid (by rw [x.c_len]; decide)
      have HYH := Lib.hid hy
      have HYA := Lib.hid hya
      have HXJ := Lib.hid hx
      have HLL2 : Hid (L.length = j) := Lib.hid (by
        have := congrArg List.length HLL.out
        rw [List.length_map, List.length_take] at this
        omega)
      clear hra hc1 hc2 hx hy hya
      go_wp2_with (first
        | (refine wpList_load_midG rfl _ _ rfl g (o + j * 17) rfl x.c _ HRA.out Tryz.underlying36 rfl HXS.out ?_)
        | (refine wpList_store_blk rfl _ _ _ rfl wr.heap.size 0 36 (adrC false z16) x.c rfl rfl (Blk.new wr 36 (adrC false z16)) HXL.out HXS.out HX1.out ?_; intro W4 HB4 HX4; have HK4 : Hid (Blk W4 wr.heap.size 36 x.c) := Lib.hid (splice_all HB4.out (by rw [x.c_len]; rfl)); have HM4 : Hid (Mod (fun _ => False) wr W4) := Lib.hid (((Mod.refl _ _).alloc _).trans HX4.out fun k hk => .inr (by omega))))
      go_frame
      have hmd : Mod (fun _ => False) wr W4.drew := HM4.out.drew
      have HP4 := Lib.hid (HP.out.keep0 hmd)
      have HRW4 := Lib.hid (HROW.out.keep hmd fun _ _ f => f)
      have HRT4 := Lib.hid (HRT.out.keep0 hmd)
      have HMW4 : Hid (Mod (PF pp hb hs) w W4.drew) := Lib.hid (HMW.out.trans hmd fun _ f => f.elim)
      have HSZ4 : Hid (w.heap.size ≤ wr.heap.size) := Lib.hid HMW.out.size
      obtain ⟨m1, hm1, hma1⟩ := HP4.out.mp
      have HLK : Hid (mgetA m1 x = some (.pointer (some ⟨y.p, 0, none⟩))) := Lib.hid (by
        have := isHeld HYH.out hm1 hma1.nd
        rwa [HYA.out] at this)
      obtain ⟨V4, hV4⟩ : ∃ V4, V4 = W4.drew := ⟨_, rfl⟩
      have hS : V4.cell? ⟨pp, 3, none⟩ = some (.map (some hb)) ∧ Blk V4 wr.heap.size 36 x.c ∧ Ma V4 hb m1 := by
        rw [hV4]
        exact ⟨HP4.out.blk.cell rfl, HK4.out.drew, hma1⟩
      rw [← hV4] at HP4 HRW4 HRT4 HMW4
      obtain ⟨me, hmb, he⟩ := HOK1.out.eg y HYH.out
      have HEG := Lib.hid he
      have HG4 := Lib.hid (HP4.out.gs y HYH.out)
      have HTY := Lib.hid (HTW.out y HYH.out)
      have HKB : Hid (wr.heap.size ≠ y.p ∧ wr.heap.size ≠ y.b) := Lib.hid (by
        have := HP.out.lts.2.2 y HYH.out
        omega)
      have HYN := Lib.hid (HP4.out.pne y HYH.out)
      have HNB := Lib.hid (HP4.out.hb y HYH.out)
      clear hmd hm1 hma1 he HK4 HB4 HX4 HM4 HP HROW HRT HMW
      refine wp_region_plan [] [(0, 0), (1, 1), (2, 0), (3, 0), (4, 0), (5, 1), (6, 1), (7, 1), (8, 0), (9, 2), (10, 0), (11, 2), (12, 2), (13, 0)] (fun w' : World => w'.cell? ⟨pp, 3, none⟩ = some (.map (some hb)) ∧ Blk w' wr.heap.size 36 x.c ∧ Ma w' hb m1) (by kernel_rfl) (by kernel_rfl) (fun d v c a w h => by cases d <;> exact h) ?_
      rw [← hV4]
      clear hV4
      repeat ((first | refine plan_skip rfl rfl ?_ | refine plan_pass2 rfl rfl ?_ | refine plan_pass3 rfl rfl ?_ | (refine plan_take (v := ?_) rfl rfl ?_ ?_; rotate_left; focus (intro w0; go_simp; try with_reducible rfl)) | (refine plan_held (v := ?_) rfl rfl hS ?_ ?_; rotate_left; focus (intro w0 hSw; (try dsimp only at hSw); go_split_ands; go_simp; try with_reducible rfl)) | refine plan_skip1 rfl rfl hS ?_); simp only [nA, nB, nC, Act.put, nD, nE, nF])
      (refine plan_held (v := .agg x.c.toArray) rfl rfl hS (fun w0 h0 => exec_load_blk _ _ rfl wr.heap.size 0 rfl 36 x.c x.c _ w0 h0.2.1 (List.take_of_length_le (Nat.le_refl _)) Tryz.underlying36 rfl HXS.out) ?_; try simp only [nA, nB, nC, Act.put, nD, nE, nF])
      repeat ((first | refine plan_skip rfl rfl ?_ | refine plan_pass2 rfl rfl ?_ | refine plan_pass3 rfl rfl ?_ | (refine plan_take (v := ?_) rfl rfl ?_ ?_; rotate_left; focus (intro w0; go_simp; try with_reducible rfl)) | (refine plan_held (v := ?_) rfl rfl hS ?_ ?_; rotate_left; focus (intro w0 hSw; (try dsimp only at hSw); go_split_ands; go_simp; try with_reducible rfl)) | refine plan_skip1 rfl rfl hS ?_); simp only [nA, nB, nC, Act.put, nD, nE, nF])
      (refine plan_held (v := .agg x.c.toArray) rfl rfl hS (fun w0 h0 => exec_load_blk _ _ rfl wr.heap.size 0 rfl 36 x.c x.c _ w0 h0.2.1 (List.take_of_length_le (Nat.le_refl _)) Tryz.underlying36 rfl HXS.out) ?_; try simp only [nA, nB, nC, Act.put, nD, nE, nF])
      (refine plan_held (v := .pointer (some ⟨y.p, 0, none⟩)) rfl rfl hS (fun w0 h0 => exec_lookup_is rfl x rfl rfl HLK.out h0.2.2) ?_; try simp only [nA, nB, nC, Act.put, nD, nE, nF])
      repeat ((first | refine plan_skip rfl rfl ?_ | refine plan_pass2 rfl rfl ?_ | refine plan_pass3 rfl rfl ?_ | (refine plan_take (v := ?_) rfl rfl ?_ ?_; rotate_left; focus (intro w0; go_simp; try with_reducible rfl)) | (refine plan_held (v := ?_) rfl rfl hS ?_ ?_; rotate_left; focus (intro w0 hSw; (try dsimp only at hSw); go_split_ands; go_simp; try with_reducible rfl)) | refine plan_skip1 rfl rfl hS ?_); simp only [nA, nB, nC, Act.put, nD, nE, nF])
      (refine plan_do rfl rfl fun K hK => ?_; try simp only [nA, nB, nC])
      go_simp
      refine (gState sortOk HG4.out (HEG.out.ok (by omega) hmb) n' (HEG.out.dueN _)).mono ?_
      rw [HTY.out]
      rintro e W5 ⟨b1, p1, q1, b2, p2, q2, rfl, hx1, hx2, hg5, hm5⟩
      have HP5 := Lib.hid (HP4.out.again HYH.out hm5 hg5)
      have HRW5 := Lib.hid (HRW4.out.keep hm5 fun q hq f => by have := HLT.out; have := HPF.out; rcases f with rfl | rfl
                                                               · exact absurd (HPF.out _ (HPFS.out y HYH.out).1) (by omega)
                                                               · exact absurd (HPF.out _ (HPFS.out y HYH.out).2) (by omega))
      have HRT5 := Lib.hid (RowA.keepT HRT4.out hm5 (HP4.out.notA1 HYH.out))
      have HMW5 : Hid (Mod (PF pp hb hs) w W5) := Lib.hid (HMW4.out.trans hm5 fun q hq => .inl (by
        rcases hq with rfl | rfl
        · exact (HPFS.out y HYH.out).1
        · exact (HPFS.out y HYH.out).2))
      have hS5 : W5.cell? ⟨pp, 3, none⟩ = some (.map (some hb)) ∧ Blk W5 wr.heap.size 36 x.c ∧ Ma W5 hb m1 := ⟨HP5.out.blk.cell rfl, hS.2.1.keep hm5 fun f => f.elim HKB.out.1 HKB.out.2, Ma.keep hS.2.2 hm5 fun f => f.elim (fun e => HYN.out.2.2.2.1 e.symm) fun e => HNB.out e.symm⟩
      refine hK _ _ hS5 ?_
      clear hK K hx1 hx2 hg5 hm5 hS HP4 HRW4 HRT4 HMW4
      have hbl := bldHeld x
      have hgl := x.c_len
      try simp only [nA, nB, nC, Act.put, nD, nE, nF]
      repeat ((first | refine plan_skip rfl rfl ?_ | refine plan_pass2 rfl rfl ?_ | refine plan_pass3 rfl rfl ?_ | (refine plan_take (v := ?_) rfl rfl ?_ ?_; rotate_left; focus (intro w0; go_simp; try with_reducible rfl)) | (refine plan_held (v := ?_) rfl rfl hS5 ?_ ?_; rotate_left; focus (intro w0 hSw; (try dsimp only at hSw); go_split_ands; go_simp; try with_reducible rfl)) | refine plan_skip1 rfl rfl hS5 ?_); simp only [nA, nB, nC, Act.put, nD, nE, nF])
      obtain ⟨X, hXa, hX⟩ : ∃ X : HE, X.a = x ∧ x.c ++ [Value.bool y.G.ex, Value.slice b1 p1 q1, Value.slice b2 p2 q2] = X.c := ⟨⟨x, y.G.ex, b1, p1, q1, b2, p2, q2⟩, rfl, rfl⟩
      rw [hX]
      have HXA := Lib.hid hXa
      have HXC := Lib.hid X.c_len
      have HXO := Lib.hid X.c_one
      clear hX hXa hbl hgl
      (refine plan_do rfl rfl fun K hK => ?_; try simp only [nA, nB, nC])
      refine wp_buildSlice1 elH (.tmp 34) rfl X.c rfl HXC.out (by decide) (by decide) ?_
      refine hK _ _ ⟨allocCell _ hS5.1, hS5.2.1.alloc _, Ma.keep (F := fun _ => False) hS5.2.2 ((Mod.refl _ _).alloc _) fun f => f⟩ ?_
      clear hK K
      try simp only [nA, nB, nC, Act.put, nD, nE, nF]
      (refine plan_do rfl rfl fun K hK => ?_; try simp only [nA, nB, nC])
      refine wp_append_one elH (.tmp 24) (.tmp 35) rfl X.c.toArray _ _ _ _ (HRW5.out.alloc _) W5.heap.size (allocNew W5 _) rfl rfl (by simpa using HXC.out) (by simpa using HXO.out) (by have := HLL2.out; have := HLN.out; omega) (by have := HLL2.out; have := HLN.out; unfold maxLen; omega) ?_
      intro v6 W6 hr6 hm6
      have hma : Mod (fun _ => False) W5 (W5.alloc (.cells X.c.toArray 84 (0, 0))) := (Mod.refl _ _).alloc _
      have hrow6 := HRW5.out.alloc (.cells X.c.toArray 84 (0, 0))
      have hnt := hrow6.notA (by decide)
      have hnf : ∀ q, q < w.heap.size → ¬ (Value.slice oa L.length oc).ownBlock = some q := fun q hq f => by have := hrow6.2 q f; omega
      have HP6 : Hid (PIn W6 pp hb most n' fast gr sr hs1) := Lib.hid ((HP5.out.keep0 hma).stay hm6 (hnf _ HLT.out.1) (hnf _ HLT.out.2.1) (fun z hz => ⟨hnf _ (HL1T.out z hz).1, hnf _ (HL1T.out z hz).2.1, hnf _ (HL1T.out z hz).2.2⟩) hnt)
      have HRT6 := Lib.hid (RowA.keepT (RowA.keep0 HRT5.out hma) hm6 hnt)
      have HMW6 : Hid (Mod (PF pp hb hs) w W6) := Lib.hid ((HMW5.out.trans hma fun _ f => f.elim).trans hm6 fun q hq => .inr (hrow6.2 q hq))
      have hS6 : W6.cell? ⟨pp, 3, none⟩ = some (.map (some hb)) ∧ Blk W6 wr.heap.size 36 x.c ∧ Ma W6 hb m1 := ⟨HP6.out.blk.cell rfl, (hS5.2.1.alloc _).keep hm6 (hrow6.ne (hS5.2.1.alloc _) (by decide)), Ma.keep (Ma.keep (F := fun _ => False) hS5.2.2 hma fun f => f) hm6 (hnf _ HLT.out.2.1)⟩
      have HR6 : Hid (Row W6 (fun q => w.heap.size ≤ q) 84 20 v6 (L.length + 1) (cellsH (L ++ [X]))) := Lib.hid (by
        have e1 : cellsH (L ++ [X]) = cellsH L ++ X.c.toArray.toList := by unfold cellsH; simp
        rw [e1]
        exact hr6.mono fun q hq => hq.elim id fun h => by have := HMW5.out.size; simp at h; omega)
      refine hK _ _ hS6 ?_
      clear hK K hma hrow6 hnt hnf hr6 hm6 hS6 hS5 HP5 HRW5 HRT5 HMW5
      try simp only [nA, nB, nC, Act.put, nD, nE, nF]
      repeat ((first | refine plan_skip rfl rfl ?_ | refine plan_pass2 rfl rfl ?_ | refine plan_pass3 rfl rfl ?_ | (refine plan_take (v := ?_) rfl rfl ?_ ?_; rotate_left; focus (intro w0; go_simp; try with_reducible rfl))); simp only [nA, nB, nC, Act.put, nD, nE, nF])
      refine plan_nil ?_
      go_wp2
      go_roundw
      case rel =>
        refine ⟨j + 1, L ++ [X], by omega, by go_num, ?_, ?_, HP6.out, HRT6.out, HMW6.out⟩
        · rw [List.map_append, HLL.out, List.take_add_one, HXJ.out]
          simp [HXA.out]
        · rw [List.length_append]
          exact HR6.out
      case measure => simp [intOf]; omega
    · obtain rfl : j = l.length := by omega
      have hfull : L.map (·.a) = l := by rw [HLL.out, List.take_length]
      go_wp2
      go_ret
      refine ⟨_, L, rfl, ?_, ?_, HROW.out, HP.out, HMW.out⟩
      · rw [hfull]; exact HLP.out
      · rw [hfull]; exact HLO.out
structure GJ (G : Gs) (j : Nat) (n : Int) : Prop where
  ex : G.ex = true
  on : G.on = []
  off : G.off = []
  till : G.till = (j : Int) + 26
  T : ∀ a, G.T a = none
  n0 : 0 ≤ G.now
  n1 : G.now ≤ n
theorem GJ.eg {G : Gs} {j : Nat} {n : Int} (h : GJ G j n) (hj : j < 12) : EG G 3000000 G.now := by
  refine ⟨rfl, h.n0, by rw [h.on]; exact AS.nil, by rw [h.off]; exact AS.nil, ?_, ?_, fun a ha => absurd (h.T a) ha, ?_, fun a t ht => ?_, ?_⟩
  · rw [h.on]; intro a ha; cases ha
  · rw [h.on, h.off]; decide
  · rw [h.on]; intro a ha; cases ha
  · rw [h.T a] at ht; cases ht
  · have h1 := h.till
    have h2 := h.n0
    omega
theorem GJ.settle {G : Gs} {j : Nat} {n : Int} (h : GJ G j n) {m : Int} (hm : n ≤ m) (h1 : m < (j : Int) + 26) (h2 : m ≤ 1000000000000) : GJ (settleG G m) j m := by
  have e0 : nowG G m = m := by
    have := h.n1
    unfold nowG
    omega
  have e1 : goneG G m = false := by
    unfold goneG
    rw [e0, h.till, decide_eq_false (by omega), Bool.and_false]
  refine ⟨?_, ?_, ?_, h.till, fun a => ?_, ?_, ?_⟩
  · show (G.ex && !goneG G m) = true
    rw [e1, h.ex]; rfl
  · show G.on.filter _ = []
    rw [h.on]; rfl
  · show (if goneG G m then [] else if G.ex then orA G.off (G.on.filter fun a => dueB G.T (nowG G m) a) else G.off) = []
    rw [e1, h.ex, h.off, h.on]
    simp [orA, mrg]
  · show updn G.T (nowG G m) a = none
    unfold updn
    rw [h.T a]
  · show 0 ≤ nowG G m
    have := h.n0
    have := h.n1
    omega
  · show nowG G m ≤ m
    omega
theorem hear0 (i : Int) (h0 : 0 ≤ i) (h1 : i ≤ 1000000) : GJ (hearG (G0 false) i uT.member 2 2 []).1 i.toNat i ∧ (hearG (G0 false) i uT.member 2 2 []).2 = 0 := by
  have hM : uT.member = 26 := by decide
  have e0 : nowG (G0 false) i = i := by unfold nowG G0; simp only; omega
  have hs : settleG (G0 false) i = ⟨false, i, false, [], [], 0, fun _ => none, 0, 0⟩ := by
    have hu : updn (G0 false).T i = fun _ => none := by funext a; rfl
    unfold settleG goneG
    rw [e0, hu]
    simp [G0]
  obtain ⟨G, hG⟩ : ∃ G : Gs, G = ⟨false, i, false, [], [], 0, fun _ => none, 0, i + 26⟩ := ⟨_, rfl⟩
  have hh : hearsG (settleG (G0 false) i) 26 2 = G := by
    rw [hs, hG]
    unfold hearsG
    rw [if_neg (by decide), if_pos ⟨rfl, rfl⟩]
  have hm : modeV G.v6 G.now G.one G.two = 2 := by
    rw [hG]
    unfold modeV
    rw [if_neg (by show ¬ (0 > i); omega), if_pos ⟨rfl, by show i + 26 > i; omega⟩]
  have hv : G.v6 = false := by rw [hG]
  have hc : cutG false 2 2 [] = (true, 2, []) := by unfold cutG lastV; rfl
  have he : hearG (G0 false) i uT.member 2 2 [] = recG G 26 2 [] := by
    unfold hearG
    rw [hM, hh, hm, hv, hc]
    rfl
  have hr : roomG G 2 [] = ([], 0) := by
    unfold roomG
    rw [if_neg (by simp)]
    rfl
  have hst : stG G 2 [] = ⟨true, [], [], [], [], true⟩ := by
    unfold stG appl
    rw [hr, hG]
    simp [incl, andA, minA, mrg, ofA]
  have hnow : G.now = i := by rw [hG]
  rw [he]
  refine ⟨⟨?_, ?_, ?_, ?_, fun a => ?_, ?_, ?_⟩, ?_⟩
  · show (stG G 2 []).ex = true
    rw [hst]
  · show (stG G 2 []).on = []
    rw [hst]
  · show (stG G 2 []).off = []
    rw [hst]
  · show (if (stG G 2 []).grp then G.now + 26 else G.till) = _
    rw [hst, hnow, if_pos rfl]
    omega
  · show onT (setT (setT G.T (stG G 2 []).full (G.now + 26)) (stG G 2 []).rest G.till) (stG G 2 []).on a = none
    rw [hst]
    simp [onT]
  · show 0 ≤ G.now
    omega
  · show G.now ≤ i
    omega
  · show (roomG G 2 []).2 = 0
    rw [hr]
structure HsJ (hs : List Hd) (c : Nat) (n : Int) : Prop where
  len : hs.length = c
  el : ∀ j x, hs[j]? = some x → x.a = adI j ∧ GJ x.G j n
theorem HsJ.nil (n : Int) : HsJ [] 0 n := ⟨rfl, fun j x h => by simp at h⟩
theorem HsJ.ok {hs : List Hd} {c : Nat} {n : Int} (h : HsJ hs c n) (hc : c ≤ 12) (hn : n ≤ 1000000) : HdOk hs := ⟨fun x hx => by
  obtain ⟨j, hj⟩ := List.getElem?_of_mem hx
  have h1 := (h.el j x hj).2
  have h2 : j < hs.length := (List.getElem?_eq_some_iff.1 hj).1
  have h3 := h.len
  exact ⟨x.G.now, by have := h1.n1; omega, h1.eg (by omega)⟩⟩
theorem HsJ.set {hs : List Hd} {c : Nat} {n : Int} (h : HsJ hs c n) {m : Int} (hm : n ≤ m) (h1 : m < 26) : setHs m hs = hs.map (Hd.settle m) ∧ HsJ (setHs m hs) c m := by
  have e : setHs m hs = hs.map (Hd.settle m) := by
    unfold setHs
    refine List.filter_eq_self.2 fun x hx => ?_
    obtain ⟨y, hy, rfl⟩ := List.mem_map.1 hx
    obtain ⟨j, hj⟩ := List.getElem?_of_mem hy
    have h2 := ((h.el j y hj).2.settle hm (by omega) (by omega)).ex
    show (!goneV (settleG y.G m).ex (settleG y.G m).on) = true
    unfold goneV
    rw [h2]
    rfl
  refine ⟨e, ?_, fun j x hx => ?_⟩
  · rw [e, List.length_map]; exact h.len
  · rw [e, List.getElem?_map] at hx
    cases hj : hs[j]? with
    | none => rw [hj] at hx; cases hx
    | some y =>
      rw [hj] at hx
      injection hx with hx
      subst hx
      exact ⟨(h.el j y hj).1, (h.el j y hj).2.settle hm (by omega) (by omega)⟩
theorem HsJ.na {hs : List Hd} {c : Nat} {n : Int} (h : HsJ hs c n) {i : Nat} (hc : c ≤ i) (hi : i < 12) : ∀ x ∈ hs, x.a ≠ adI i := fun x hx e => by
  obtain ⟨j, hj⟩ := List.getElem?_of_mem hx
  have h2 : j < hs.length := (List.getElem?_eq_some_iff.1 hj).1
  have h3 := h.len
  rw [(h.el j x hj).1] at e
  have := adI_inj (by omega) hi e
  omega
theorem HsJ.add {hs : List Hd} {c : Nat} {n : Int} (h : HsJ hs c n) {x : Hd} (ha : x.a = adI c) (hg : GJ x.G c n) : HsJ (hs ++ [x]) (c + 1) n := by
  refine ⟨by rw [List.length_append, h.len]; rfl, fun j y hy => ?_⟩
  by_cases hj : j < c
  · rw [List.getElem?_append_left (by rw [h.len]; exact hj)] at hy
    exact h.el j y hy
  · rw [List.getElem?_append_right (by rw [h.len]; omega), h.len] at hy
    have : j - c = 0 := by
      have := (List.getElem?_eq_some_iff.1 hy).1
      simp at this
      omega
    rw [this] at hy
    obtain rfl : x = y := by simpa using hy
    obtain rfl : j = c := by omega
    exact ⟨ha, hg⟩
def adL (c : Nat) : List Ad := (List.range c).map adI
theorem HsJ.ads {hs : List Hd} {c : Nat} {n : Int} (h : HsJ hs c n) : hs.map (·.a) = adL c := by
  refine List.ext_getElem? fun j => ?_
  unfold adL
  rw [List.getElem?_map, List.getElem?_map]
  by_cases hj : j < c
  · rw [List.getElem?_range hj]
    have hj' : j < hs.length := by rw [h.len]; exact hj
    rw [List.getElem?_eq_getElem hj']
    show some (hs[j].a) = some (adI j)
    rw [(h.el j _ (List.getElem?_eq_getElem hj')).1]
  · rw [List.getElem?_eq_none (by rw [h.len]; omega), List.getElem?_eq_none (by simp; omega)]
    rfl
theorem adL_as (c : Nat) (hc : c ≤ 12) : AS (adL c) := by
  have h1 : AS (adL 12) := by
    refine ⟨?_, ?_⟩
    · unfold Asc
      decide
    · decide
  refine h1.sub ?_
  unfold adL
  exact (List.range_sublist.2 hc).map _
theorem adL_sorted {l : List Ad} {c : Nat} (hc : c ≤ 12) (hp : l.Perm (adL c)) (hs : l.Pairwise fun a b => a.rk ≤ b.rk) : l = adL c := by
  have h1 := adL_as c hc
  have hnd : l.Nodup := hp.nodup_iff.2 h1.nodup
  have hg : ∀ a ∈ l, a.good = true := fun a ha => h1.2 a (hp.mem_iff.1 ha)
  refine AS.ext ⟨?_, hg⟩ h1 fun a => hp.mem_iff
  unfold Asc
  refine (hs.and hnd).imp_of_mem fun {a b} ha hb hab => ?_
  have h2 : a.rk ≠ b.rk := fun e => hab.2 (Ad.rk_inj (hg a ha) (hg b hb) e)
  omega
set_option maxRecDepth 100000 in
theorem usual18 (w : World) : Calls Tryz.prog 36 #[] w fun e w' => e = .returned (.agg uT.c.toArray) ∧ Mod (fun _ => False) w w' := by
  have HB := Lib.hid (Blk.new w 32 [.int .i64 0, .int .i64 0, .int .i64 0, .int .i64 0, .int .i64 0])
  go_enter Tryz.func36, Tryz.ntmps36
  go_wp2_with (refine wpList_store_blk rfl _ _ _ rfl w.heap.size 0 32 _ uT.c rfl rfl HB.out (by simp [Tn.c]) tuSz (by simp [Tn.c, Value.oneCell']) ?_; intro W1 HX1 HY1)
  refine bodyPost_ret (results_blk rfl _ w.heap.size 32 uT.c rfl (splice_all HX1.out rfl) Tryz.underlying32 rfl tuSz) rfl ?_
  exact ⟨rfl, ((Mod.refl _ _).alloc _).trans HY1.out fun q hq => .inr (by omega)⟩
set_option maxRecDepth 100000 in
theorem four_i (i : Nat) (hi : i < 256) (w : World) : Calls Tryz.prog 37 #[.int .u8 (i : Int)] w fun e w' => e = .returned (.agg (adI i).c.toArray) ∧ Mod (fun _ => False) w w' := by
  obtain ⟨y, hy⟩ : ∃ y : Int, y = (i : Int) := ⟨_, rfl⟩
  have xc : (adI i).c = [.bool false, .int .u8 239, .int .u8 1, .int .u8 1, .int .u8 y, .int .u8 0, .int .u8 0, .int .u8 0, .int .u8 0, .int .u8 0, .int .u8 0, .int .u8 0, .int .u8 0, .int .u8 0, .int .u8 0, .int .u8 0, .int .u8 0] := by
    show adrC false [239, 1, 1, (i : Int) % 256, 0, 0, 0, 0, 0, 0, 0, 0, 0, 0, 0, 0] = _
    rw [show (i : Int) % 256 = y by omega]
    rfl
  have HXC := Lib.hid xc
  rw [← hy]
  obtain ⟨g, hg⟩ : ∃ g, g = adI i := ⟨_, rfl⟩
  rw [← hg] at HXC ⊢
  have HGS := Lib.hid g.c_sz
  have HG1 := Lib.hid g.c_one
  have HGL := Lib.hid g.c_len
  have HB := Lib.hid (Blk.new w 36 (adrC false z16))
  clear xc hy hg hi
  go_enter Tryz.func37, Tryz.ntmps37
  go_wp2_with (refine wpList_store_blk rfl _ _ _ rfl w.heap.size 0 36 (adrC false z16) g.c rfl (by rw [HXC.out]; rfl) HB.out (by rw [HGL.out]; decide) HGS.out HG1.out ?_; intro W1 HX1 HY1)
  refine bodyPost_ret (results_blk rfl _ w.heap.size 36 g.c rfl (splice_all HX1.out (by rw [HGL.out]; rfl)) Tryz.underlying36 rfl HGS.out) rfl ?_
  exact ⟨rfl, ((Mod.refl _ _).alloc _).trans HY1.out fun q hq => .inr (by omega)⟩
theorem exec_ne_selfP {ev : Operand → Value} {op : Oper} {x y : Operand} {q : TypeId} (ho : op.op = .binOp .neq 36 x y q) (a : Ad) (ex : ev x = .agg a.c.toArray) (ey : ev y = .agg a.c.toArray) (w : World) :
    (execOp ev op).run Tryz.prog w = .ok (.value (.bool false)) w := by
  have h := eqIn_adr w 9997 a.v a.v a.b a.b a.ok.1 a.ok.1
  have e : adrC a.v a.b = a.c := rfl
  rw [e] at h
  simp only [execOp, ho, ex, ey, Sem.run_bind, run_eqGuard_agg w _ 36 _ _ _ _ adr_guard, run_neq_struct, h, Result.andThen_ok, Sem.run_pure]
  simp
theorem bldTk (g : Ad) : g.c.zipIdx.foldl (fun (cs : Array Value) (x : Value × Nat) => cs.setIfInBounds (4 + x.2) x.1) #[.bool false, .int .i64 2, .int .i64 2, .int .i64 0, .bool false, .int .u8 0, .int .u8 0, .int .u8 0, .int .u8 0, .int .u8 0, .int .u8 0, .int .u8 0, .int .u8 0, .int .u8 0, .int .u8 0, .int .u8 0, .int .u8 0, .int .u8 0, .int .u8 0, .int .u8 0, .int .u8 0, .bool false, .int .i64 0, .int .i64 0, .slice none 0 0, .slice none 0 0] = (tkC g).toArray := by
  rw [foldl_at 4 g.c 0 _ (by rw [g.c_len]; decide), g.c_len]
  rfl
theorem HearP.next {w0 w W : World} {pp hb : Nat} {m i : Nat} {nw : Int} {gr : Int} {hs : List Hd} {R : Gs × Int} (hj : HsJ hs (min i m) nw) (hn : nw ≤ i) (hi : i < 12) (hfr : ∀ x ∈ hs, w0.heap.size ≤ x.p ∧ w0.heap.size ≤ x.b) (hw : w0.heap.size ≤ w.heap.size) (hgr : gr = (i : Int) - (min i m : Nat))
    (hG : GJ R.1 i i) (hR : R.2 = 0) (h : HearP w W pp hb m (i : Int) gr 0 (setHs (i : Int) hs) (adI i) R) :
    ∃ hs2, PIn W pp hb m (i : Int) false (((i + 1 : Nat) : Int) - (min (i + 1) m : Nat)) 0 hs2 ∧ HsJ hs2 (min (i + 1) m) (i : Int) ∧ ∀ x ∈ hs2, w0.heap.size ≤ x.p ∧ w0.heap.size ≤ x.b := by
  obtain ⟨e, hj2⟩ := hj.set hn (by omega)
  have hfr2 : ∀ x ∈ setHs (i : Int) hs, w0.heap.size ≤ x.p ∧ w0.heap.size ≤ x.b := fun x hx => by
    obtain ⟨y, hy, rfl⟩ := setHs_sub hx
    exact hfr y hy
  have hlen := hj2.len
  by_cases hf : (m : Int) ≤ ((setHs (i : Int) hs).length : Int)
  · refine ⟨_, ?_, ?_, hfr2⟩
    · have := h.1 hf
      have e1 : ((i + 1 : Nat) : Int) - (min (i + 1) m : Nat) = gr + 1 := by omega
      rw [e1]
      exact this
    · have e1 : min (i + 1) m = min i m := by omega
      rw [e1]
      exact hj2
  · obtain ⟨p, c, b, hp, h1, h2⟩ := h.2 hf
    have hmi : min i m = i := by omega
    refine ⟨setHs (i : Int) hs ++ [⟨adI i, p, c, b, R.1⟩], ?_, ?_, fun x hx => ?_⟩
    · have e1 : ((i + 1 : Nat) : Int) - (min (i + 1) m : Nat) = gr := by omega
      rw [e1]
      have e2 : (0 : Int) + R.2 = 0 := by omega
      rw [e2] at hp
      exact hp
    · have e1 : min (i + 1) m = i + 1 := by omega
      rw [e1]
      rw [hmi] at hj2
      exact hj2.add rfl hG
    · rcases List.mem_append.1 hx with hx | hx
      · exact hfr2 x hx
      · rw [List.mem_singleton.1 hx]
        exact ⟨by show w0.heap.size ≤ p; omega, by show w0.heap.size ≤ b; omega⟩
set_option maxRecDepth 100000 in
set_option maxHeartbeats 8000000 in
theorem lost_walk (a b : Int) (ha : 0 ≤ a ∧ a < 256) (hb : 0 ≤ b ∧ b < 256) (w : World) : Calls Tryz.prog 7 #[.int .u8 a, .int .u8 b] w fun e w' => e = .returned (.bool true) ∧ Mod (fun _ => False) w w' := by
  obtain ⟨m, hm⟩ : ∃ m : Nat, (m : Int) = a.tmod 6 := ⟨(a.tmod 6).toNat, by have := Int.tmod_nonneg 6 ha.1; omega⟩
  obtain ⟨k, hk⟩ : ∃ k : Nat, (k : Int) = b.tmod 12 := ⟨(b.tmod 12).toNat, by have := Int.tmod_nonneg 12 hb.1; omega⟩
  have hm6 : m < 6 := by have := Int.tmod_lt_of_pos a (show (0 : Int) < 6 by decide); omega
  have hk12 : k < 12 := by have := Int.tmod_lt_of_pos b (show (0 : Int) < 12 by decide); omega
  have e1 : a.tmod 6 = m := hm.symm
  have e2 : b.tmod 12 = k := hk.symm
  clear hm hk
  go_enter Tryz.func7, Tryz.ntmps7
  go_wp2_with fail
  refine (ptNew (m : Int) _).mono ?_
  rintro e W1 ⟨pp, hb, rfl, hp, h1, h2, hm⟩
  rw [show min (max (m : Int) 0) 64 = (m : Int) by omega] at hp
  have HP1 := Lib.hid hp
  have HM1 := Lib.hid hm
  have HFR : Hid (w.heap.size ≤ pp ∧ w.heap.size ≤ hb) := Lib.hid ⟨h1, h2⟩
  clear hp hm h1 h2
  go_wp2_with fail
  go_loopw [8] (fun iv wr => ∃ (i : Nat) (hs : List Hd) (nw : Int), i ≤ k ∧ iv = .int .i64 (i : Int) ∧ PIn wr pp hb m nw false ((i : Int) - (min i m : Nat)) 0 hs ∧ HsJ hs (min i m) nw ∧ 0 ≤ nw ∧ nw ≤ i ∧ (∀ x ∈ hs, w.heap.size ≤ x.p ∧ w.heap.size ≤ x.b) ∧ Mod (fun _ => False) w wr) (fun iv _ => k - (intOf iv).toNat)
  case atStart => exact ⟨0, [], 0, Nat.zero_le _, rfl, by simpa using HP1.out, by simpa using HsJ.nil 0, by omega, by omega, (fun x hx => by cases hx), HM1.out⟩
  case round =>
    obtain ⟨i, hs, nw, hi, rfl, hp, hj, hn0, hn1, hfr, hmw⟩ := hrel
    clear HP1 HM1
    have HP := Lib.hid hp
    have HJ := Lib.hid hj
    have HFX := Lib.hid hfr
    have HMW := Lib.hid hmw
    have HNW : Hid (0 ≤ nw ∧ nw ≤ i) := Lib.hid ⟨hn0, hn1⟩
    clear hp hj hn0 hn1 hfr hmw
    by_cases hlt : i < k
    · have hlt' : (i : Int) < (k : Int) := by omega
      have hbl := bldTk (adI i)
      have hgl := (adI i).c_len
      have HRI := Lib.hid (hear0 (i : Int) (by omega) (by omega))
      go_wp2_with (first
        | (go_at_call 36; refine (usual18 _).mono ?_; rintro e W2 ⟨rfl, hm⟩; have HP2 := Lib.hid (HP.out.keep0 hm); have HM2 : Hid (Mod (fun _ => False) w W2) := Lib.hid (HMW.out.trans hm fun _ f => f.elim); clear hm)
        | (go_at_call 37; refine (four_i i (by omega) _).mono ?_; rintro e W3 ⟨rfl, hm⟩; have HP3 := Lib.hid (HP2.out.keep0 hm); have HM3 : Hid (Mod (fun _ => False) w W3) := Lib.hid (HM2.out.trans hm fun _ f => f.elim); clear hm))
      refine (ptHearU HP3.out (HJ.out.ok (by omega) (by have := HNW.out; omega)) (by rw [HJ.out.len]; omega) ⟨by omega, by omega⟩ ⟨by omega, by omega⟩ ⟨by omega, by omega⟩ (i : Int) uT uT_ok i (by omega) (n' := (i : Int)) (by have := HNW.out; omega) ⟨by omega, by omega⟩ (R := hearG (G0 false) (i : Int) uT.member 2 2 []) rfl HRI.out.1.ex (by rw [HRI.out.2]; decide) ((HJ.out.set HNW.out.2 (by omega)).2.na (by omega) (by omega))).mono ?_
      rintro e W4 ⟨⟨v, rfl⟩, hh, hm4⟩
      obtain ⟨hs2, hp2, hj2, hf2⟩ := hh.next (w0 := w) HJ.out HNW.out.2 (by omega) HFX.out HM3.out.size rfl (by have := HRI.out.1; rwa [Int.toNat_natCast] at this) HRI.out.2
      have HP4 := Lib.hid hp2
      have HJ4 := Lib.hid hj2
      have HF4 := Lib.hid hf2
      have HM4 : Hid (Mod (fun _ => False) w W4) := Lib.hid (HM3.out.trans hm4 fun q hq => .inr (by
        rcases hq with rfl | rfl | ⟨x, hx, rfl | rfl⟩
        · exact HFR.out.1
        · exact HFR.out.2
        · exact (HFX.out x hx).1
        · exact (HFX.out x hx).2))
      clear hh hm4 hp2 hj2 hf2 HP HJ HFX HMW HNW HP2 HM2 HP3 HM3 hbl hgl
      go_wp2
      go_roundw
      case rel => exact ⟨i + 1, hs2, (i : Int), by omega, by go_num, HP4.out, HJ4.out, by omega, by omega, HF4.out, HM4.out⟩
      case measure => simp [intOf]; omega
    · obtain rfl : i = k := by omega
      clear hlt hi
      go_wp2_with fail
      refine (ptHeld HP.out (HJ.out.ok (by omega) (by have := HNW.out; omega)) (by rw [HJ.out.len]; omega) (i : Int) (n' := (i : Int)) (by have := HNW.out; omega)).mono ?_
      rintro e W5 ⟨v, L, rfl, hlp, hlo, hrow, hp5, hm5⟩
      obtain ⟨hset, hj5⟩ := HJ.out.set HNW.out.2 (show (i : Int) < 26 by omega)
      obtain ⟨c, hc⟩ : ∃ c, c = min i m := ⟨_, rfl⟩
      obtain ⟨gr, hgr⟩ : ∃ gr : Int, gr = (i : Int) - (min i m : Nat) := ⟨_, rfl⟩
      obtain ⟨hs5, hh5⟩ : ∃ hs5, hs5 = setHs (i : Int) hs := ⟨_, rfl⟩
      rw [← hgr] at hp5
      rw [← hh5] at hp5 hlp hj5
      rw [← hc] at hj5
      have HLA : Hid (L.map (·.a) = adL c) := Lib.hid (adL_sorted (by omega) (hj5.ads ▸ hlp) hlo)
      have HLL : Hid (L.length = c) := Lib.hid (by
        have := congrArg List.length HLA.out
        simpa [adL] using this)
      have HP5 := Lib.hid hp5
      have HJ5 := Lib.hid hj5
      have HPW := Lib.hid HP.out.pfLt
      have HF5 : Hid (∀ x ∈ hs5, (w.heap.size ≤ x.p ∧ x.p < wr.heap.size) ∧ w.heap.size ≤ x.b ∧ x.b < wr.heap.size) := Lib.hid fun x hx => by
        rw [hh5] at hx
        have h1 := setHs_pf (pp := pp) (hb := hb) hx
        obtain ⟨y, hy, rfl⟩ := setHs_sub hx
        exact ⟨⟨(HFX.out y hy).1, HPW.out _ h1.1⟩, (HFX.out y hy).2, HPW.out _ h1.2⟩
      have HM5 : Hid (Mod (fun _ => False) w W5) := Lib.hid (HMW.out.trans hm5 fun q hq => .inr (by
        rcases hq with rfl | rfl | ⟨x, hx, rfl | rfl⟩
        · exact HFR.out.1
        · exact HFR.out.2
        · exact (HFX.out x hx).1
        · exact (HFX.out x hx).2))
      have HPP : Hid (pp < wr.heap.size ∧ hb < wr.heap.size) := Lib.hid ⟨HPW.out _ (.inl rfl), HPW.out _ (.inr (.inl rfl))⟩
      obtain ⟨la, lc, hv, _⟩ := Row.form hrow
      subst hv
      have HROW := Lib.hid hrow
      rw [HLL.out] at HROW ⊢
      have HC := Lib.hid hc
      have HGR := Lib.hid hgr
      have HW5 : Hid (wr.heap.size ≤ W5.heap.size) := Lib.hid hm5.size
      clear hlp hlo hrow hp5 hm5 hset hj5 hh5 hc hgr HP HJ HFX HMW HNW
      obtain ⟨W4, hW4⟩ : ∃ W4, W4 = wr := ⟨_, rfl⟩
      rw [← hW4] at HROW HF5 HPP HW5 HPW
      clear hW4
      go_upto_if 41 with fail
      go_cut [9] from 41 to 42 (fun v wx => v = .int .i64 (c : Int) ∧ wx = W5)
      case first =>
        by_cases hkm : (i : Int) > (m : Int)
        · have hkm' : m < i := by omega
          have hcm : Hid ((m : Int) = (c : Int)) := Lib.hid (by have := HC.out; omega)
          go_wp2_with fail
          go_meet
          exact ⟨by rw [hcm.out], rfl⟩
        · have hkm' : ¬ m < i := by omega
          have hci : Hid ((i : Int) = (c : Int)) := Lib.hid (by have := HC.out; omega)
          go_wp2_with fail
          go_meet
          exact ⟨by rw [hci.out], rfl⟩
      case rest =>
        obtain ⟨rfl, hwx⟩ := hcut
        rw [hwx]
        clear hwx
        have hc5 : c ≤ 5 := by have := HC.out; omega
        have hci : c ≤ i := by have := HC.out; omega
        go_wp2_with fail
        go_loopw [11] (fun iv wx => ∃ (j : Nat) (hs2 : List Hd), j ≤ c ∧ iv = .int .i64 (j : Int) ∧ PIn wx pp hb m (i : Int) false gr 0 hs2 ∧ HsJ hs2 c (i : Int) ∧ (∀ x ∈ hs2, (w.heap.size ≤ x.p ∧ x.p < W4.heap.size) ∧ w.heap.size ≤ x.b ∧ x.b < W4.heap.size) ∧ Row wx (fun q => W4.heap.size ≤ q) 84 20 (.slice la c lc) c (cellsH L) ∧ Mod (fun _ => False) w wx) (fun iv _ => c - (intOf iv).toNat)
        case atStart => exact ⟨0, hs5, Nat.zero_le _, rfl, HP5.out, HJ5.out, HF5.out, HROW.out, HM5.out⟩
        case round =>
          obtain ⟨j, hs2, hj, rfl, hp, hjj, hff, hrow, hmw⟩ := hrel
          clear HP5 HJ5 HF5 HROW HM5
          have HP := Lib.hid hp
          have HJ := Lib.hid hjj
          have HFF := Lib.hid hff
          have HROW := Lib.hid hrow
          have HMW := Lib.hid hmw
          clear hp hjj hff hrow hmw
          by_cases hlt : j < c
          · have hlt' : (j : Int) < (c : Int) := by omega
            obtain ⟨x, hx⟩ : ∃ x, hs2[j]? = some x := ⟨_, List.getElem?_eq_getElem (by rw [HJ.out.len]; exact hlt)⟩
            have hxj := HJ.out.el j x hx
            have hzm : x.settle (i : Int) ∈ setHs (i : Int) hs2 := by
              rw [(HJ.out.set (Int.le_refl _) (by omega)).1]
              exact List.mem_map_of_mem (List.mem_of_getElem? hx)
            have hzg := hxj.2.settle (Int.le_refl _) (by omega) (by omega)
            have hlv : (if (x.settle (i : Int)).G.ex then (x.settle (i : Int)).G.till - (x.settle (i : Int)).G.now else 0) = 26 - (i : Int) + (j : Int) := by
              have h1 : (x.settle (i : Int)).G.ex = true := hzg.ex
              have h2 : (x.settle (i : Int)).G.till = (j : Int) + 26 := hzg.till
              have h3 : (x.settle (i : Int)).G.now = (i : Int) := by
                show max x.G.now (min (i : Int) 1000000000000) = (i : Int)
                have := hxj.2.n1
                omega
              rw [h1, h2, h3]
              simp
              omega
            have HLEFT : Hid (∀ W, PIn W pp hb m (i : Int) false gr 0 hs2 → Calls Tryz.prog 39 #[.pointer (some ⟨pp, 0, none⟩), .int .i64 (i : Int), .agg (adI j).c.toArray] W fun e w' => e = .returned (.int .i64 (26 - (i : Int) + (j : Int))) ∧ PIn w' pp hb m (i : Int) false gr 0 (setHs (i : Int) hs2) ∧ Mod (PF pp hb hs2) W w') := Lib.hid fun W hW => by
              have := ptLeft hW (HJ.out.ok (by omega) (by omega)) (by rw [HJ.out.len]; omega) (i : Int) (n' := (i : Int)) (by omega) (x.settle (i : Int)) hzm
              rw [hlv, show (x.settle (i : Int)).a = adI j from hxj.1] at this
              exact this
            have HJ2 := Lib.hid (HJ.out.set (Int.le_refl (i : Int)) (by omega)).2
            have HFF2 : Hid (∀ x ∈ setHs (i : Int) hs2, (w.heap.size ≤ x.p ∧ x.p < W4.heap.size) ∧ w.heap.size ≤ x.b ∧ x.b < W4.heap.size) := Lib.hid fun z hz => by
              obtain ⟨y, hy, rfl⟩ := setHs_sub hz
              exact HFF.out y hy
            have HPFB : Hid (∀ q, PF pp hb hs2 q → w.heap.size ≤ q ∧ q < W4.heap.size) := Lib.hid fun q hq => by
              rcases hq with rfl | rfl | ⟨y, hy, rfl | rfl⟩
              · exact ⟨HFR.out.1, HPP.out.1⟩
              · exact ⟨HFR.out.2, HPP.out.2⟩
              · exact (HFF.out y hy).1
              · exact (HFF.out y hy).2
            obtain ⟨_, _, e, hc1, hc2, hgg⟩ := Row.form HROW.out
            injection e with e3 _ e4
            subst e3 e4
            obtain ⟨g, rfl, hg1, hg2, hg3⟩ := hgg (by omega)
            obtain ⟨X, hX⟩ : ∃ X, L[j]? = some X := ⟨_, List.getElem?_eq_getElem (by rw [HLL.out]; exact hlt)⟩
            have hXa : X.a = adI j := by
              have := congrArg (fun l => l[j]?) HLA.out
              simp only [List.getElem?_map, hX, adL, List.getElem?_range hlt, Option.map_some, Option.some.injEq] at this
              exact this
            obtain ⟨V0, hV0⟩ : ∃ V0, V0 = wr.drew := ⟨_, rfl⟩
            have hdm : Mod (fun _ => False) wr V0 := hV0 ▸ (Mod.refl _ _).drew
            have HP0 := Lib.hid (HP.out.keep0 hdm)
            have HRW0 := Lib.hid (HROW.out.keep hdm fun _ _ f => f)
            have HM0 : Hid (Mod (fun _ => False) w V0) := Lib.hid (HMW.out.trans hdm fun _ f => f.elim)
            have hS : V0.rangeAt g (j * 20) (adI j).c := fun t u hu => hdm.cell (fun f => f) (hg3 _ _ (cellsH_get hX t u (by rw [hXa]; exact hu)))
            have HQZ := Lib.hid (adI j).c_sz
            have HGB : Hid (W4.heap.size ≤ g) := Lib.hid hg1
            have u0 : IntKind.u8.wrap (j : Int) = (j : Int) := by show (j : Int) % 256 = (j : Int); omega
            have u1 : IntKind.i64.wrap (26 - (i : Int)) = 26 - (i : Int) := IntWalk.i64_in _ (by omega)
            have u2 : IntKind.i64.wrap (26 - (i : Int) + (j : Int)) = 26 - (i : Int) + (j : Int) := IntWalk.i64_in _ (by omega)
            clear hdm hX hXa hg1 hg2 hg3 hgg hxj hzm hzg hlv hx HP HROW HMW HJ HFF
            go_wp2_with fail
            refine wp_region_plan [] [(0, 0), (1, 0), (2, 0), (3, 0), (4, 1), (5, 0), (6, 0), (7, 2), (8, 0), (9, 0), (10, 0), (11, 0), (12, 0), (13, 0), (14, 0), (15, 0), (16, 1), (18, 0), (19, 0), (20, 0), (21, 0), (17, 2), (22, 0), (23, 0)] (fun w' : World => w'.rangeAt g (j * 20) (adI j).c) (by kernel_rfl) (by kernel_rfl) (fun d v c a w h => by cases d <;> exact h) ?_
            rw [← hV0]
            clear hV0
            repeat ((first | refine plan_skip rfl rfl ?_ | refine plan_pass2 rfl rfl ?_ | refine plan_pass3 rfl rfl ?_ | (refine plan_take (v := ?_) rfl rfl ?_ ?_; rotate_left; focus (intro w0; go_simp; try with_reducible rfl)) | (refine plan_held (v := ?_) rfl rfl hS ?_ ?_; rotate_left; focus (intro w0 hSw; (try dsimp only at hSw); go_split_ands; go_simp; try with_reducible rfl)) | refine plan_skip1 rfl rfl hS ?_); simp only [nA, nB, nC, Act.put, nD, nE, nF])
            (refine plan_held (v := .agg (adI j).c.toArray) rfl rfl hS (fun w0 h0 => exec_load_mid _ _ rfl g (j * 20) rfl (adI j).c _ w0 h0 Tryz.underlying36 rfl HQZ.out) ?_; try simp only [nA, nB, nC, Act.put, nD, nE, nF])
            repeat ((first | refine plan_skip rfl rfl ?_ | refine plan_pass2 rfl rfl ?_ | refine plan_pass3 rfl rfl ?_ | (refine plan_take (v := ?_) rfl rfl ?_ ?_; rotate_left; focus (intro w0; go_simp; try with_reducible rfl)) | (refine plan_held (v := ?_) rfl rfl hS ?_ ?_; rotate_left; focus (intro w0 hSw; (try dsimp only at hSw); go_split_ands; go_simp; try with_reducible rfl)) | refine plan_skip1 rfl rfl hS ?_); simp only [nA, nB, nC, Act.put, nD, nE, nF])
            (refine plan_do rfl rfl fun K hK => ?_; try simp only [nA, nB, nC])
            go_simp
            refine (four_i j (by omega) _).mono ?_
            rintro e W7 ⟨rfl, hm7⟩
            have HP7 := Lib.hid (HP0.out.keep0 hm7)
            have HRW7 := Lib.hid (HRW0.out.keep hm7 fun _ _ f => f)
            have HM7 : Hid (Mod (fun _ => False) w W7) := Lib.hid (HM0.out.trans hm7 fun _ f => f.elim)
            have hS7 : W7.rangeAt g (j * 20) (adI j).c := keepRange hm7 hS
            refine hK _ _ hS7 ?_
            clear hK K hm7 hS HP0 HRW0 HM0
            try simp only [nA, nB, nC, Act.put, nD, nE, nF]
            repeat ((first | refine plan_skip rfl rfl ?_ | refine plan_pass2 rfl rfl ?_ | refine plan_pass3 rfl rfl ?_ | (refine plan_take (v := ?_) rfl rfl ?_ ?_; rotate_left; focus (intro w0; go_simp; try with_reducible rfl)) | (refine plan_held (v := ?_) rfl rfl hS7 ?_ ?_; rotate_left; focus (intro w0 hSw; (try dsimp only at hSw); go_split_ands; go_simp; try with_reducible rfl)) | refine plan_skip1 rfl rfl hS7 ?_); simp only [nA, nB, nC, Act.put, nD, nE, nF])
            refine plan_take (v := .bool false) rfl rfl (exec_ne_selfP rfl (adI j) rfl rfl) ?_
            try simp only [nA, nB, nC, Act.put, nD, nE, nF]
            repeat ((first | refine plan_skip rfl rfl ?_ | refine plan_pass2 rfl rfl ?_ | refine plan_pass3 rfl rfl ?_ | (refine plan_take (v := ?_) rfl rfl ?_ ?_; rotate_left; focus (intro w0; go_simp; try with_reducible rfl)) | (refine plan_held (v := ?_) rfl rfl hS7 ?_ ?_; rotate_left; focus (intro w0 hSw; (try dsimp only at hSw); go_split_ands; go_simp; try with_reducible rfl)) | refine plan_skip1 rfl rfl hS7 ?_); simp only [nA, nB, nC, Act.put, nD, nE, nF])
            (refine plan_held (v := .agg (adI j).c.toArray) rfl rfl hS7 (fun w0 h0 => exec_load_mid _ _ rfl g (j * 20) rfl (adI j).c _ w0 h0 Tryz.underlying36 rfl HQZ.out) ?_; try simp only [nA, nB, nC, Act.put, nD, nE, nF])
            repeat ((first | refine plan_skip rfl rfl ?_ | refine plan_pass2 rfl rfl ?_ | refine plan_pass3 rfl rfl ?_ | (refine plan_take (v := ?_) rfl rfl ?_ ?_; rotate_left; focus (intro w0; go_simp; try with_reducible rfl)) | (refine plan_held (v := ?_) rfl rfl hS7 ?_ ?_; rotate_left; focus (intro w0 hSw; (try dsimp only at hSw); go_split_ands; go_simp; try with_reducible rfl)) | refine plan_skip1 rfl rfl hS7 ?_); simp only [nA, nB, nC, Act.put, nD, nE, nF])
            (refine plan_do rfl rfl fun K hK => ?_; try simp only [nA, nB, nC])
            go_simp
            refine (HLEFT.out _ HP7.out).mono ?_
            rintro e W8 ⟨rfl, hp8, hm8⟩
            have HP8 := Lib.hid hp8
            have HRW8 := Lib.hid (HRW7.out.keep hm8 fun q hq f => by have := HPFB.out q f; omega)
            have HM8 : Hid (Mod (fun _ => False) w W8) := Lib.hid (HM7.out.trans hm8 fun q hq => .inr (HPFB.out q hq).1)
            have hS8 : W8.rangeAt g (j * 20) (adI j).c := fun t u hu => hm8.cell (fun f => by have := HPFB.out g f; have := HGB.out; omega) (hS7 t u hu)
            refine hK _ _ hS8 ?_
            clear hK K hm8 hp8 hS7 HP7 HRW7 HM7
            try simp only [nA, nB, nC, Act.put, nD, nE, nF]
            repeat ((first | refine plan_skip rfl rfl ?_ | refine plan_pass2 rfl rfl ?_ | refine plan_pass3 rfl rfl ?_ | (refine plan_take (v := ?_) rfl rfl ?_ ?_; rotate_left; focus (intro w0; go_simp; try with_reducible rfl)) | (refine plan_held (v := ?_) rfl rfl hS8 ?_ ?_; rotate_left; focus (intro w0 hSw; (try dsimp only at hSw); go_split_ands; go_simp; try with_reducible rfl)) | refine plan_skip1 rfl rfl hS8 ?_); simp only [nA, nB, nC, Act.put, nD, nE, nF])
            refine plan_nil ?_
            go_wp2
            go_roundw
            case rel => exact ⟨j + 1, _, by omega, by go_num, HP8.out, HJ2.out, HFF2.out, HRW8.out, HM8.out⟩
            case measure => simp [intOf]; omega
          · obtain rfl : j = c := by omega
            have gw : IntKind.i64.wrap ((i : Int) - (j : Int)) = gr := by
              have := HGR.out
              have := HC.out
              rw [IntWalk.i64_in _ (by omega)]
              omega
            have HLV := Lib.hid lives18_any
            go_wp2_with (first
              | (go_at_call 34; refine (ptLost HP.out).mono ?_; rintro e W8 ⟨rfl, hm⟩; have HM8 : Hid (Mod (fun _ => False) w W8) := Lib.hid (HMW.out.trans hm fun _ f => f.elim); clear hm)
              | (go_at_call 26; refine (HLV.out _).mono ?_; rintro e W9 ⟨rfl, hm⟩; have HM9 : Hid (Mod (fun _ => False) w W9) := Lib.hid (HM8.out.trans hm fun _ f => f.elim)))
            go_ret
            exact ⟨rfl, HM9.out⟩
end Go.Proofs.YtcccdlmngddalaaGreat
