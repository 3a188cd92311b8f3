/- A run's operations, one by one: append, maps. -/
import Derived.Test.YtcccdlmngddalaaGreatRun4
set_option linter.unusedVariables false
set_option linter.unusedSimpArgs false
set_option linter.unusedSectionVars false
namespace Go.Proofs.YtcccdlmngddalaaGreat
open Go.RowKit
namespace R
variable [vl : Val]
section
variable {P : Program} {w0 : Base} {i : Inj} {h : Hp} {w : World}
theorem Rel.swap {g : Nat → Option AO} {n : Nat} (hR : Rel w0 i g n w) {b k N : Nat} {o : AO} (hb : g b = some o) (ho : o ≠ .d) (hi : i b = some (k, N)) {w' : World} (hg : w.grownBy w' (some k)) {k' N' : Nat} {o' : AO} {ob : Obj}
    (hk : k' = k ∨ w.heap.size ≤ k') (hob : w'.heap[k']? = some ob) (hor : OR (put i n (k', N')) N' o' ob) : Rel w0 (put i n (k', N')) (up (up g b .d) n o') (n + 1) w' := by
  have hk' : k' < w'.heap.size := lt_of_block hob
  have hbn := hR.dom b _ hi
  refine ⟨hR.mod.grown hg (fun x hx => ?_), fun b1 y h1 => ?_, fun b1 k1 M h1 => ?_, fun b1 b2 k1 N1 N2 o1 o2 h1 h2 h3 h4 h5 h6 => ?_, fun b1 o1 k1 M h1 h2 => ?_, fun b1 h1 => ⟨by have := (hR.gh b1 h1).1; omega, by have := hR.gh b1 h1; simp only [put, if_neg (show b1 ≠ n by omega)]; exact this.2⟩⟩
  · simp at hx; subst hx; exact .inr (hR.lo b _ _ hi).1
  · unfold put at h1
    split at h1
    · omega
    · have := hR.dom b1 y h1; omega
  · unfold put at h1
    split at h1
    · simp at h1
      have := hR.lo b _ _ hi
      have := hR.mod.size
      omega
    · have := hR.lo b1 _ _ h1
      have := hg.size
      omega
  · have look : ∀ {c : Nat} {o3 : AO}, up (up g b .d) n o' c = some o3 → o3 ≠ .d → c ≠ n → c ≠ b ∧ g c = some o3 := by
      intro c o3 hc h3 hn
      unfold up at hc
      rw [if_neg hn] at hc
      split at hc
      · simp at hc; exact absurd hc.symm h3
      · rename_i hcb; exact ⟨hcb, hc⟩
    unfold put at h1 h2
    split at h1 <;> split at h2
    · omega
    · rename_i e1 e2
      simp at h1
      obtain ⟨q1, q2⟩ := look h4 h6 e2
      rcases hk with hk | hk
      · exact absurd (hR.inj b2 b k1 N2 N _ _ h2 (by rw [← h1.1, hk]; exact hi) q2 hb h6 ho) q1
      · have := (hR.lo b2 _ _ h2).2; omega
    · rename_i e1 e2
      simp at h2
      obtain ⟨q1, q2⟩ := look h3 h5 e1
      rcases hk with hk | hk
      · exact absurd (hR.inj b1 b k1 N1 N _ _ h1 (by rw [← h2.1, hk]; exact hi) q2 hb h5 ho) q1
      · have := (hR.lo b1 _ _ h1).2; omega
    · rename_i e1 e2
      obtain ⟨q1, q2⟩ := look h3 h5 e1
      obtain ⟨q3, q4⟩ := look h4 h6 e2
      exact hR.inj b1 b2 k1 N1 N2 _ _ h1 h2 q2 q4 h5 h6
  · by_cases e : b1 = n
    · subst e
      simp [up] at h1
      simp [put] at h2
      obtain ⟨rfl, rfl⟩ := h2
      subst h1
      exact ⟨ob, hob, hor⟩
    · simp only [put, if_neg e] at h2
      have hlo := hR.lo b1 _ _ h2
      have hsz := hg.size
      cases o1 with
      | d => exact ⟨w'.heap[k1], Array.getElem?_eq_getElem (by omega), trivial⟩
      | _ =>
        simp only [up, if_neg e] at h1
        split at h1
        · cases h1
        · rename_i hcb
          obtain ⟨ob1, h3, h4⟩ := hR.obj b1 _ k1 M h1 h2
          refine ⟨ob1, ?_, h4.mono (hR.le _)⟩
          rw [hg.block k1 (by omega) (fun hh => ?_)]
          · exact h3
          · simp at hh
            subst hh
            exact hcb (hR.inj b1 b _ M N _ _ h2 hi h1 hb (by simp) ho)
theorem Rel.setObj {g : Nat → Option AO} {n : Nat} (hR : Rel w0 i g n w) {b k N : Nat} {o o' : AO} (hb : g b = some o) (ho : o ≠ .d) (hi : i b = some (k, N)) {ob : Obj} (hor : OR i N o' ob) : Rel w0 i (up g b o') n { w with heap := w.heap.setIfInBounds k ob } := by
  have hk := hR.lo b _ _ hi
  refine ⟨hR.mod.trans (G := fun x => x = k) ⟨rfl, rfl, rfl, by simp, fun j _ hj => by simp [Array.getElem?_setIfInBounds_ne (Ne.symm hj)]⟩ (fun x e => .inr (by omega)), hR.dom, fun b1 k1 N1 h1 => by simpa using hR.lo b1 k1 N1 h1, fun b1 b2 k1 N1 N2 o1 o2 h4 h5 h6 h7 h8 h9 => ?_, fun b1 o1 k1 N1 h4 h5 => ?_, hR.gh⟩
  · have live : ∀ {c : Nat} {o3 : AO}, up g b o' c = some o3 → o3 ≠ .d → ∃ o4, g c = some o4 ∧ o4 ≠ .d := by
      intro c o3 hc h3
      unfold up at hc
      split at hc
      · rename_i e1; subst e1; exact ⟨_, hb, ho⟩
      · exact ⟨o3, hc, h3⟩
    obtain ⟨p1, q1, r1⟩ := live h6 h8
    obtain ⟨p2, q2, r2⟩ := live h7 h9
    exact hR.inj b1 b2 k1 N1 N2 p1 p2 h4 h5 q1 q2 r1 r2
  · by_cases e1 : b1 = b
    · subst e1
      rw [hi] at h5
      simp at h5
      obtain ⟨rfl, rfl⟩ := h5
      simp [up] at h4
      subst h4
      exact ⟨ob, by simp [hk.2], hor⟩
    · simp only [up, if_neg e1] at h4
      obtain ⟨ob1, h6, h7⟩ := hR.obj b1 o1 k1 N1 h4 h5
      by_cases e : k1 = k
      · subst e
        cases o1 with
        | d => exact ⟨ob, by simp [hk.2], trivial⟩
        | _ => exact absurd (hR.inj b1 b _ _ _ _ _ h5 hi h4 hb (by simp) ho) e1
      · exact ⟨ob1, by simp [Array.getElem?_setIfInBounds_ne (Ne.symm e), h6], h7⟩
/- append -/
def newsOf (h : Hp) (sz : Nat) : AV → Option (Nat × List Cel)
  | .v (.c (.x (.slice none 0 _))) => some (0, [])
  | .v (.c (.s b o n c z ex)) => (match h.m.get b with
    | some (.c _ t) => (match rd t o (n * sz) with | some l => some (n, l) | none => none)
    | _ => none)
  | _ => none
theorem newsOf_eq (hR : Rel w0 i h.m.get h.n w) {sz m : Nat} {l : List Cel} {x : AV} {u : Value} (hx : AR i x u) (hn : newsOf h sz x = some (m, l)) :
    (∃ c, u = .slice none 0 c ∧ m = 0 ∧ l = []) ∨ ∃ ad c us, u = .slice (some ad) m c ∧ us.length = m * sz ∧ LR (CR i) l us ∧ ∀ j v, us[j]? = some v → w.cell? (ad.add j) = some v := by
  unfold newsOf at hn
  split at hn
  · simp at hn
    obtain ⟨rfl, rfl⟩ := hn
    exact .inl ⟨_, hx.1, rfl, rfl⟩
  · rename_i b o n c z ex
    obtain ⟨k, N, c', hi, rfl, _⟩ := hx
    split at hn
    · rename_i e t hb
      split at hn
      · rename_i l' hrd
        simp at hn
        obtain ⟨rfl, rfl⟩ := hn
        obtain ⟨us, h1, h2, h3⟩ := rd_eq (w := w) (i := i) (k := k) (fun j x hj => let ⟨u, h1, h2, _⟩ := hR.cell hb hi hj; ⟨u, h1, h2⟩) _ _ _ hrd
        exact .inr ⟨⟨k, o, none⟩, c', us, rfl, h1, h2, fun j v hj => by rw [addr_add]; exact h3 j v hj⟩
      · cases hn
    · cases hn
  · cases hn
def aAppend (P : Program) (h : Hp) (ats : List TypeId) (s x : AV) : Option (AV × Hp) :=
  match ats with
  | [t, t'] => gd (Nat.beq t t') (match P.underlying t with
    | some (.slice e) => (match P.info? e with
      | some inf => (match inf.zero with
        | some zv => gd (Nat.blt 0 inf.size) (gd (Nat.beq zv.cells.size inf.size) (match newsOf h inf.size x with
          | some (m, l) => gd (Nat.ble m 1048576) (match s with
            | .v (.c (.x (.slice none 0 0))) => cond (Nat.beq m 0) (some (s, h)) (gd (Nat.ble (m * inf.bytes) 140737488355328) (match aNew h e l with
              | some h' => wNat inf.size fun sz => some (.v (.c (.s h.n 0 m m sz false)), h')
              | none => none))
            | .v (.c (.s b o n c z ex)) => cond (Nat.beq m 0) (some (s, h)) (gd (Nat.beq z inf.size) (gd (Nat.ble n 1048576) (gd (Nat.ble ((n + m) * inf.bytes) 140737488355328) (gd (Nat.blt c (n + m)) (match h.m.get b with
              | some (.c e' t1) => gd (Nat.beq e e') (match rd t1 o (n * inf.size) with
                | some old => wNat (n + m) fun nm => cond ex
                    (match aNew h e (old ++ l) with | some h' => some (.v (.c (.s h.n 0 nm nm z false)), h') | none => none)
                    (gd (Nat.beq o 0) (match h.m.set 64 b .d with
                      | some m1 => (match aNew ⟨m1, h.n⟩ e (old ++ l) with | some h' => some (.v (.c (.s h.n 0 nm nm z false)), h') | none => none)
                      | none => none))
                | none => none)
              | _ => none)))))
            | _ => none)
          | none => none))
        | none => none)
      | none => none)
    | _ => none)
  | _ => none
theorem run_append_zero {t ty e : TypeId} (hd : P.underlying t = some (.slice e)) {sz : Nat} (hsz : szOf P e = some sz) {a : Option Addr} {n cap c : Nat} (hn : n ≤ cap) {b : Option Addr} :
    (Builtin.append_ #[t, t] ty #[.slice a n cap, .slice b 0 c]).run P w = .ok (.slice a n cap) w := by
  cases a <;> cases b <;> simp [Builtin.append_, run_underlying hd, szOf_run hsz, Builtin.lenOf, hn, Builtin.firstCells, loadCells, loadCellsFrom, storeCells]
theorem app_take (os us : List Value) (z : Array Value) : (os.toArray ++ us.toArray ++ z).toList.take (os ++ us).length = os ++ us := by
  rw [Array.toList_append, Array.toList_append]
  exact List.take_left' rfl
theorem zeroCells_take (zs : Array Value) (us : List Value) (n : Nat) : (us.toArray ++ Builtin.zeroCells zs n).toList.take us.length = us := by simp
theorem aAppend_eq (hR : Rel w0 i h.m.get h.n w) {ats : Array TypeId} {ty : TypeId} {s x y : AV} {u v : Value} {h' : Hp} (hs : AR i s u) (hx : AR i x v) (ha : aAppend P h ats.toList s x = some (y, h')) :
    Ran P w0 (do pure (Next.value (← Builtin.append_ ats ty #[u, v]))) i w y h' := by
  unfold aAppend at ha
  split at ha
  · rename_i t t' hats
    obtain rfl : ats = #[t, t'] := by cases ats; simp_all
    simp only [gd_eq] at ha
    obtain ⟨htt, ha⟩ := ha
    obtain rfl := beq_of htt
    split at ha
    · rename_i e hd
      split at ha
      · rename_i inf hinf
        split at ha
        · rename_i zv hzv
          simp only [gd_eq] at ha
          obtain ⟨hpos, hzs, ha⟩ := ha
          have hpos := blt_of hpos
          have hzs := beq_of hzs
          have hsz : szOf P e = some inf.size := by simp [szOf, hinf]
          split at ha
          · rename_i m l hnews
            simp only [gd_eq] at ha
            obtain ⟨hm1, ha⟩ := ha
            have hm1 := ble_of hm1
            have hv := newsOf_eq hR hx hnews
            split at ha
            · -- onto nothing
              obtain ⟨rfl, _⟩ := hs
              cases hm : Nat.beq m 0 with
              | true =>
                have hm0 := beq_of hm
                subst hm0
                rw [hm] at ha
                simp at ha
                obtain ⟨rfl, rfl⟩ := ha
                rcases hv with ⟨c, rfl, _⟩ | ⟨ad, c, us, rfl, _⟩
                · exact Ran.same hR (run_append_zero hd hsz (Nat.le_refl 0)) ⟨rfl, rfl⟩
                · exact Ran.same hR (run_append_zero hd hsz (Nat.le_refl 0)) ⟨rfl, rfl⟩
              | false =>
                rw [hm] at ha
                simp only [cond_false, gd_eq] at ha
                obtain ⟨hby, ha⟩ := ha
                have hby := ble_of hby
                rcases hv with ⟨c, rfl, hm0, _⟩ | ⟨ad, c, us, rfl, hul, hLR, hcells⟩
                · subst hm0; simp at hm
                · split at ha
                  · rename_i h1 hnew
                    simp at ha
                    obtain ⟨rfl, rfl⟩ := ha
                    have hmp : 0 < m := by rcases Nat.eq_zero_or_pos m with e0 | e0
                                           · subst e0; simp at hm
                                           · exact e0
                    have hrun := run_append_nil (P := P) w t ty e inf zv hd hinf hzv ad m c us hul hcells hmp (by omega) (by omega)
                    have hge := grownCap_ge w m 0 e
                    have hle := grownCap_le_maxLen w m 0 e (by unfold maxLen; omega)
                    have hRd := hR.drew
                    refine Ran.val hrun (hRd.le _) (aNew_more hRd hnew hLR _ (zeroCells_take _ _ _)) ⟨_, _, grownCap w m 0 e, put_self _ _ _, rfl, Nat.le_refl _, hge, hle, fun hh => (by cases hh), fun _ => ⟨hpos, ?_⟩⟩
                    simp only [Array.size_append, List.size_toArray, size_zeroCells, hzs, hul]
                    rw [← Nat.add_mul, Nat.zero_add]
                    congr 1
                    omega
                  · cases ha
            · rename_i b o n c z ex
              obtain ⟨k, N, c', hib, rfl, hnc, hcc, hmax, hex, hnx⟩ := hs
              cases hm : Nat.beq m 0 with
              | true =>
                have hm0 := beq_of hm
                subst hm0
                rw [hm] at ha
                simp at ha
                obtain ⟨rfl, rfl⟩ := ha
                rcases hv with ⟨c, rfl, _⟩ | ⟨ad, c, us, rfl, _⟩
                · exact Ran.same hR (run_append_zero hd hsz (by omega)) ⟨k, N, c', hib, rfl, hnc, hcc, hmax, hex, hnx⟩
                · exact Ran.same hR (run_append_zero hd hsz (by omega)) ⟨k, N, c', hib, rfl, hnc, hcc, hmax, hex, hnx⟩
              | false =>
                rw [hm] at ha
                simp only [cond_false, gd_eq] at ha
                obtain ⟨hz, hn1, hby, hroom, ha⟩ := ha
                have hz := beq_of hz
                subst hz
                have hn1 := ble_of hn1
                have hby := ble_of hby
                have hroom := blt_of hroom
                rcases hv with ⟨c, rfl, hm0, _⟩ | ⟨ad, cx, us, rfl, hul, hLR, hcells⟩
                · subst hm0; simp at hm
                split at ha
                · rename_i e' t1 hb
                  simp only [gd_eq] at ha
                  obtain ⟨hee, ha⟩ := ha
                  obtain rfl := beq_of hee
                  split at ha
                  · rename_i old hrd
                    simp only [wNat_eq] at ha
                    obtain ⟨os, ho1, ho2, ho3⟩ := rd_eq (w := w) (i := i) (k := k) (fun j x hj => let ⟨u, h1, h2, _⟩ := hR.cell hb hib hj; ⟨u, h1, h2⟩) _ _ _ hrd
                    cases hexb : ex with
                    | true =>
                      subst hexb
                      have hcap := hex rfl
                      simp only [cond_true] at ha
                      split at ha
                      · rename_i h1 hnew
                        simp at ha
                        obtain ⟨rfl, rfl⟩ := ha
                        have hrun := run_append_grow (P := P) w t ty e inf zv hd hinf hzv ⟨k, o, none⟩ n c' os ho1 (fun j v hj => by rw [addr_add]; exact ho3 j v hj) ad m cx us hul hcells (by omega) (by omega) (growslice_fits (by omega) hby)
                        have hge := grownCap_ge w (n + m) c' e
                        have hle := grownCap_le_maxLen w (n + m) c' e (by unfold maxLen; omega)
                        have hRd := hR.drew
                        have hlen : (os ++ us).length = (n + m) * inf.size := by rw [List.length_append, ho1, hul, Nat.add_mul]
                        refine Ran.val hrun (hRd.le _) (aNew_more hRd hnew (ho2.app hLR) (os.toArray ++ us.toArray ++ Builtin.zeroCells zv.cells (grownCap w (n + m) c' e - (n + m))) (app_take _ _ _)) ⟨_, _, grownCap w (n + m) c' e, put_self _ _ _, rfl, Nat.le_refl _, hge, hle, fun hh => (by cases hh), fun _ => ⟨hpos, ?_⟩⟩
                        have : (os.toArray ++ us.toArray ++ Builtin.zeroCells zv.cells (grownCap w (n + m) c' e - (n + m))).size = (n + m) * inf.size + (grownCap w (n + m) c' e - (n + m)) * inf.size := by
                          rw [Array.size_append, Array.size_append, size_zeroCells, hzs, List.size_toArray, List.size_toArray, ← List.length_append, hlen]
                        rw [this, ← Nat.add_mul]
                        simp only [Nat.zero_add]
                        congr 1
                        omega
                      · cases ha
                    | false =>
                      subst hexb
                      have hN := (hnx rfl).2
                      simp only [cond_false, gd_eq] at ha
                      obtain ⟨ho0, ha⟩ := ha
                      have ho0 := beq_of ho0
                      subst ho0
                      split at ha
                      · rename_i m1 hm1'
                        split at ha
                        · rename_i h1 hnew
                          simp at ha
                          obtain ⟨rfl, rfl⟩ := ha
                          obtain ⟨ob, q1, arr, rfl, q2, q3⟩ := hR.obj b _ k N hb hib
                          have hRow : Row w (fun x => x = k) e inf.size (.slice (some ⟨k, 0, none⟩) n c') n os := by
                            refine ⟨⟨ho1, .inr ⟨k, c', arr, rfl, Nat.zero_le _, q1, by omega, hmax, by omega, ?_⟩⟩, fun g hg => by simp [Value.ownBlock] at hg; exact hg.symm⟩
                            refine List.ext_getElem? fun j => ?_
                            rw [List.getElem?_take]
                            split
                            · rename_i hj
                              have hj' : j < os.length := by omega
                              have := ho3 j _ (List.getElem?_eq_getElem hj')
                              rw [cellOf q1] at this
                              rw [List.getElem?_eq_getElem hj', ← this]
                              simp
                            · rename_i hj
                              rw [List.getElem?_eq_none (by omega)]
                          have hone : ∀ u ∈ us, u.oneCell' = true := fun u hu => by
                            obtain ⟨j, hj⟩ := List.getElem?_of_mem hu
                            have hjl : j < l.length := by rw [hLR.len]; exact (List.getElem?_eq_some_iff.1 hj).1
                            obtain ⟨v, hv1, hv2⟩ := hLR.get j _ (List.getElem?_eq_getElem hjl)
                            rw [hj] at hv1
                            simp at hv1
                            subst hv1
                            exact hv2.one
                          obtain ⟨v', w', r1, r2, r3⟩ := run_append_row (P := P) w (fun x => x = k) t ty e inf zv inf.size inf.bytes hd hinf hzv rfl rfl hzs _ n os hRow ad m cx us hul hcells hone (by unfold maxLen; omega) hby
                          rcases r2.1.2 with ⟨_, hz0⟩ | ⟨k', cap', cur', rfl, _, s1, s2, s3, s4, s5⟩
                          · have : m = 0 := by omega
                            subst this; simp at hm
                          · have hk' : k' = k ∨ w.heap.size ≤ k' := r2.2 k' (by simp [Value.ownBlock])
                            unfold aNew at hnew
                            split at hnew
                            · rename_i t2 ht2
                              split at hnew
                              · rename_i m2 hm2
                                simp at hnew
                                subst hnew
                                have hdom := hR.dom b _ hib
                                have hfin := hR.swap hb (by simp) hib (w' := w') (by simpa [Value.ownBlock] using r3) (k' := k') (N' := cur'.size) (o' := .c e t2) hk' s1 ⟨cur', rfl, rfl, fun j x hj => by
                                  rw [triOf_eq _ _ _ _ ht2] at hj
                                  split at hj
                                  · rename_i hlt
                                    simp at hj
                                    obtain ⟨u, h3, h4⟩ := (ho2.app hLR).get j x hj
                                    refine ⟨u, ?_, h4.mono (hR.le _)⟩
                                    rw [← s5, List.getElem?_take] at h3
                                    split at h3
                                    · simpa using h3
                                    · cases h3
                                  · simp [Tri.get] at hj⟩
                                refine Ran.val r1 (hR.le _) ?_ ⟨k', cur'.size, cap', put_self _ _ _, rfl, Nat.le_refl _, s2, s3, fun hh => (by cases hh), fun _ => ⟨hpos, by omega⟩⟩
                                dsimp only
                                rw [up_get hm2]
                                dsimp only
                                rw [up_get hm1']
                                exact hfin
                              · cases hnew
                            · cases hnew
                        · cases ha
                      · cases ha
                  · cases ha
                · cases ha
            · cases ha
          · cases ha
        · cases ha
      · cases ha
    · cases ha
  · cases ha
end
end R
end Go.Proofs.YtcccdlmngddalaaGreat
