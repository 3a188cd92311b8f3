/- slices.IndexFunc, DeleteFunc at addresses, with whatever closure: contracts. -/
import Derived.Test.YtcccdlmngddalaaGreatGrB
import Derived.Test.YtcccdlmngddalaaGreatRowK
import Derived.Shelf.Abstract
namespace Go.Proofs.YtcccdlmngddalaaGreat
open Go.RowKit Go.Sort
set_option linter.unusedVariables false
set_option linter.unusedSimpArgs false
/-- what stays -/
def kp (ds : Nat → Bool) : Nat → List Ad → List Ad
  | _, [] => []
  | i, a :: l => (if ds i then [] else [a]) ++ kp ds (i + 1) l
theorem kp_app (ds : Nat → Bool) : ∀ (a b : List Ad) (i : Nat), kp ds i (a ++ b) = kp ds i a ++ kp ds (i + a.length) b
  | [], b, i => by simp [kp]
  | x :: a, b, i => by
    rw [List.cons_append, kp, kp, kp_app ds a b (i + 1), List.append_assoc, show i + 1 + a.length = i + (x :: a).length by simp; omega]
theorem kp_all (ds : Nat → Bool) : ∀ (l : List Ad) (i : Nat), (∀ t, t < l.length → ds (i + t) = false) → kp ds i l = l
  | [], _, _ => rfl
  | x :: l, i, h => by
    rw [kp, kp_all ds l (i + 1) fun t ht => by have := h (t + 1) (by simp; omega); rwa [show i + 1 + t = i + (t + 1) by omega], show ds i = false from h 0 (by simp)]
    rfl
theorem kp_len (ds : Nat → Bool) : ∀ (l : List Ad) (i : Nat), (kp ds i l).length ≤ l.length
  | [], _ => by simp [kp]
  | x :: l, i => by
    have := kp_len ds l (i + 1)
    rw [kp]
    split <;> simp <;> omega
theorem kp_step (ds : Nat → Bool) (l : List Ad) (j : Nat) (x : Ad) (hx : l[j]? = some x) : kp ds 0 (l.take (j + 1)) = kp ds 0 (l.take j) ++ (if ds j then [] else [x]) := by
  have hj := (List.getElem?_eq_some_iff.1 hx).1
  rw [List.take_add_one, hx, kp_app, Nat.zero_add, List.length_take, show min j l.length = j by omega]
  simp [kp]
/-- what is asked of the closure: J i: i elements have been shown to it -/
structure Del (g : FuncId) (cb : Array Value) (l : List Ad) (ds : Nat → Bool) (J : Nat → World → Prop) (F R : Nat → Prop) : Prop where
  eg : ∀ args w, (callFunc g args).run Tryz.prog w = .ok (.enter g args) w
  call : ∀ i x W, l[i]? = some x → J i W → Calls Tryz.prog g (#[.agg x.c.toArray] ++ cb) W fun e W' => e = .returned (.bool (ds i)) ∧ J (i + 1) W' ∧ Mod F W W'
  keep : ∀ i W W', J i W → Mod R W W' → J i W'
set_option maxRecDepth 100000 in
set_option maxHeartbeats 400000 in
theorem IndexFunc_any {w : World} {f : Nat → Prop} {v : Value} {l : List Ad} {g : FuncId} {cb : Array Value} {ds : Nat → Bool} {J : Nat → World → Prop} {F R : Nat → Prop} (D : Del g cb l ds J F R) (h : RowA w f v l) (hF : ∀ k, F k → ¬ v.ownBlock = some k) (h0 : J 0 w) :
    Calls Tryz.prog 128 #[v, .func (.func g) #[] cb] w fun e w' => (∃ i : Nat, i < l.length ∧ ds i = true ∧ (∀ t, t < i → ds t = false) ∧ e = .returned (.int .i64 (i : Int)) ∧ J (i + 1) w' ∧ Mod F w w') ∨
      ((∀ t, t < l.length → ds t = false) ∧ e = .returned (.int .i64 (-1)) ∧ J l.length w' ∧ Mod F w w') := by
  have eg := D.eg
  obtain ⟨n, hn⟩ : ∃ n, n = l.length := ⟨_, rfl⟩
  obtain ⟨ad, cap, rfl, hnc, hcm, hg⟩ := Row.form h
  unfold maxLen at hcm
  rw [← hn] at hnc ⊢
  have HR : Hid (∀ wr, Mod F w wr → ∀ j x, l[j]? = some x → ∃ g0, ad = some ⟨g0, 0, none⟩ ∧ wr.rangeAt g0 (j * 17) x.c) := Lib.hid fun wr hm j x hx => by
    obtain ⟨g0, e0, _, _, hc⟩ := hg (by have := (List.getElem?_eq_some_iff.1 hx).1; omega)
    subst e0
    refine ⟨g0, rfl, fun i u hu => ?_⟩
    rw [← cellsA_get hx, List.getElem?_take] at hu
    split at hu
    · rw [List.getElem?_drop] at hu
      exact hm.cell (fun hf => hF _ hf rfl) (hc _ u hu)
    · cases hu
  have HN := Lib.hid hn
  have HJ0 := Lib.hid h0
  have HD := Lib.hid D
  clear hg hn h h0 D hF
  go_enter Tryz.func128, Tryz.ntmps128
  go_wp2_with fail
  go_loopw [8] (fun iv wr => ∃ j : Nat, j ≤ n ∧ iv = .int .i64 (j : Int) ∧ (∀ t, t < j → ds t = false) ∧ J j wr ∧ Mod F w wr) (fun iv _ => n - (intOf iv).toNat)
  case atStart => exact ⟨0, Nat.zero_le _, rfl, fun t ht => by omega, HJ0.out, Mod.refl _ _⟩
  case round =>
    obtain ⟨j, hj, rfl, hall, hJ, hm⟩ := hrel
    have HJ := Lib.hid hJ
    have HM := Lib.hid hm
    have HALL := Lib.hid hall
    clear hJ hm hall
    by_cases hlt : j < n
    · obtain ⟨x, hx⟩ : ∃ x, l[j]? = some x := ⟨_, List.getElem?_eq_getElem (by rw [← HN.out]; exact hlt)⟩
      obtain ⟨g0, e0, hr⟩ := HR.out wr HM.out j x hx
      subst e0
      have HRA := Lib.hid hr
      have HXS := Lib.hid x.c_sz
      have HC := Lib.hid (HD.out.call j x wr hx HJ.out)
      clear hx hr
      obtain ⟨b, hb⟩ : ∃ b, b = ds j := ⟨_, rfl⟩
      rw [← hb] at HC
      have HB := Lib.hid hb
      clear hb
      cases b with
      | true =>
        go_wp2_with (first
          | (refine wpList_load_midG rfl _ _ rfl g0 (j * 17) rfl x.c _ HRA.out Tryz.underlying36 rfl HXS.out ?_)
          | (go_at_fn g; refine HC.out.mono ?_; rintro e W2 ⟨rfl, hj2, hm2⟩; have HJ2 := Lib.hid hj2; have HM2 := Lib.hid hm2; clear hj2 hm2))
        go_ret
        exact .inl ⟨j, hlt, HB.out.symm, HALL.out, rfl, HJ2.out, HM.out.trans HM2.out fun k hk => .inl hk⟩
      | false =>
        go_wp2_with (first
          | (refine wpList_load_midG rfl _ _ rfl g0 (j * 17) rfl x.c _ HRA.out Tryz.underlying36 rfl HXS.out ?_)
          | (go_at_fn g; refine HC.out.mono ?_; rintro e W2 ⟨rfl, hj2, hm2⟩; have HJ2 := Lib.hid hj2; have HM2 := Lib.hid hm2; clear hj2 hm2))
        go_roundw
        case rel => exact ⟨j + 1, by omega, by go_num, fun t ht => by rcases Nat.lt_succ_iff_lt_or_eq.1 ht with h | rfl; exact HALL.out t h; exact HB.out.symm, HJ2.out, HM.out.trans HM2.out fun k hk => .inl hk⟩
        case measure => simp [intOf]; omega
    · obtain rfl : j = n := by omega
      go_wp2
      go_ret
      exact .inr ⟨HALL.out, rfl, HJ.out, HM.out⟩
end Go.Proofs.YtcccdlmngddalaaGreat
