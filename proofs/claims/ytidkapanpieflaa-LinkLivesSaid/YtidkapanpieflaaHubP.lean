/- Lists of things that bear a number, rising: find, put, delete; in plain Lean. -/
import Derived.Test.YtidkapanpieflaaRLife2
namespace Go.Proofs.Ytidkapanpieflaa
set_option linter.unusedVariables false
set_option linter.unusedSimpArgs false
section
variable {α β : Type} (nd : α → Int)
def Asc (l : List α) : Prop := l.Pairwise fun x y => nd x < nd y
def hfind (l : List α) (n : Int) : Option α := l.find? fun x => nd x == n
def hput (l : List α) (x : α) : List α := l.filter (fun y => decide (nd y < nd x)) ++ x :: l.filter (fun y => decide (nd x < nd y))
def hdel (l : List α) (n : Int) : List α := l.filter fun y => decide (nd y ≠ n)
end
section
variable {α β : Type} {nd : α → Int}
theorem hfind_mem {l : List α} {n : Int} {x : α} (h : hfind nd l n = some x) : x ∈ l ∧ nd x = n := by
  unfold hfind at h
  have h2 := List.find?_some h
  simp only [beq_iff_eq] at h2
  exact ⟨List.mem_of_find?_eq_some h, h2⟩
theorem asc_inj {l : List α} (ha : Asc nd l) {x y : α} (hx : x ∈ l) (hy : y ∈ l) (h : nd x = nd y) : x = y := by
  induction l with
  | nil => cases hx
  | cons a l ih =>
    have h1 := List.pairwise_cons.1 ha
    rcases List.mem_cons.1 hx with e1 | hx1
    · rcases List.mem_cons.1 hy with e2 | hy1
      · rw [e1, e2]
      · have := h1.1 y hy1; rw [e1] at h; omega
    · rcases List.mem_cons.1 hy with e2 | hy1
      · have := h1.1 x hx1; rw [e2] at h; omega
      · exact ih h1.2 hx1 hy1
theorem hfind_of {l : List α} (ha : Asc nd l) {x : α} (hx : x ∈ l) : hfind nd l (nd x) = some x := by
  unfold hfind
  cases h : l.find? (fun y => nd y == nd x) with
  | none =>
    rw [List.find?_eq_none] at h
    exact absurd (h x hx) (by simp)
  | some y =>
    have h2 := hfind_mem (nd := nd) (n := nd x) (show hfind nd l (nd x) = some y from h)
    rw [asc_inj ha h2.1 hx h2.2]
theorem hfind_iff {l : List α} (ha : Asc nd l) {n : Int} {x : α} : hfind nd l n = some x ↔ x ∈ l ∧ nd x = n :=
  ⟨hfind_mem, fun h => h.2 ▸ hfind_of ha h.1⟩
theorem hfind_none {l : List α} {n : Int} : hfind nd l n = none ↔ ∀ x ∈ l, nd x ≠ n := by
  unfold hfind
  rw [List.find?_eq_none]
  simp
theorem mem_hput {l : List α} {x y : α} : y ∈ hput nd l x ↔ y = x ∨ (y ∈ l ∧ nd y ≠ nd x) := by
  unfold hput
  simp only [List.mem_append, List.mem_filter, List.mem_cons, decide_eq_true_eq]
  constructor
  · rintro (h | h | h)
    · exact .inr ⟨h.1, by omega⟩
    · exact .inl h
    · exact .inr ⟨h.1, by omega⟩
  · rintro (h | ⟨h1, h2⟩)
    · exact .inr (.inl h)
    · rcases (show nd y < nd x ∨ nd x < nd y by omega) with h | h
      · exact .inl ⟨h1, h⟩
      · exact .inr (.inr ⟨h1, h⟩)
theorem asc_hput {l : List α} (ha : Asc nd l) (x : α) : Asc nd (hput nd l x) := by
  unfold hput Asc
  refine List.pairwise_append.2 ⟨List.Pairwise.filter _ ha, List.pairwise_cons.2 ⟨fun y hy => ?_, List.Pairwise.filter _ ha⟩, fun y hy z hz => ?_⟩
  · have := (List.mem_filter.1 hy).2
    simpa using this
  · have h1 := (List.mem_filter.1 hy).2
    simp only [decide_eq_true_eq] at h1
    rcases List.mem_cons.1 hz with rfl | hz
    · exact h1
    · have h2 := (List.mem_filter.1 hz).2
      simp only [decide_eq_true_eq] at h2
      omega
theorem mem_hdel {l : List α} {n : Int} {y : α} : y ∈ hdel nd l n ↔ y ∈ l ∧ nd y ≠ n := by
  unfold hdel
  simp [List.mem_filter]
theorem asc_hdel {l : List α} (ha : Asc nd l) (n : Int) : Asc nd (hdel nd l n) := List.Pairwise.filter _ ha
theorem hfind_hput {l : List α} (ha : Asc nd l) (x : α) (n : Int) : hfind nd (hput nd l x) n = if n = nd x then some x else hfind nd l n := by
  by_cases h : n = nd x
  · subst h
    rw [if_pos rfl]
    exact hfind_of (asc_hput ha x) (mem_hput.2 (.inl rfl))
  · rw [if_neg h]
    apply Option.ext
    intro y
    rw [hfind_iff (asc_hput ha x), hfind_iff ha, mem_hput]
    constructor
    · rintro ⟨rfl | h1, h2⟩
      · exact absurd h2.symm h
      · exact ⟨h1.1, h2⟩
    · rintro ⟨h1, h2⟩
      exact ⟨.inr ⟨h1, by rw [h2]; exact h⟩, h2⟩
theorem hfind_hdel {l : List α} (ha : Asc nd l) (m n : Int) : hfind nd (hdel nd l m) n = if n = m then none else hfind nd l n := by
  by_cases h : n = m
  · subst h
    rw [if_pos rfl, hfind_none]
    exact fun x hx => (mem_hdel.1 hx).2
  · rw [if_neg h]
    apply Option.ext
    intro y
    rw [hfind_iff (asc_hdel ha m), hfind_iff ha, mem_hdel]
    exact ⟨fun h1 => ⟨h1.1.1, h1.2⟩, fun h1 => ⟨⟨h1.1, by rw [h1.2]; exact h⟩, h1.2⟩⟩
/-- maps that keep numbers -/
theorem hput_map {nd' : β → Int} (f : α → β) (hf : ∀ x, nd' (f x) = nd x) (l : List α) (x : α) : hput nd' (l.map f) (f x) = (hput nd l x).map f := by
  unfold hput
  rw [List.map_append, List.map_cons, List.filter_map, List.filter_map]
  simp only [Function.comp_def, hf]
theorem hdel_map {nd' : β → Int} (f : α → β) (hf : ∀ x, nd' (f x) = nd x) (l : List α) (n : Int) : hdel nd' (l.map f) n = (hdel nd l n).map f := by
  unfold hdel
  rw [List.filter_map]
  simp only [Function.comp_def, hf]
theorem hfind_map {nd' : β → Int} (f : α → β) (hf : ∀ x, nd' (f x) = nd x) (l : List α) (n : Int) : hfind nd' (l.map f) n = (hfind nd l n).map f := by
  unfold hfind
  rw [List.find?_map]
  simp only [Function.comp_def, hf]
theorem asc_map {nd' : β → Int} (f : α → β) (hf : ∀ x, nd' (f x) = nd x) {l : List α} (h : Asc nd l) : Asc nd' (l.map f) := by
  unfold Asc
  rw [List.pairwise_map]
  exact h.imp fun {a b} hab => by rw [hf, hf]; exact hab
theorem filter_all {p : α → Bool} {l : List α} (h : ∀ y ∈ l, p y = true) : l.filter p = l := List.filter_eq_self.2 h
theorem filter_no {p : α → Bool} {l : List α} (h : ∀ y ∈ l, p y = false) : l.filter p = [] := List.filter_eq_nil_iff.2 fun y hy => by rw [h y hy]; simp
theorem asc_app {s t : List α} (h : Asc nd (s ++ t)) : Asc nd s ∧ Asc nd t ∧ ∀ x ∈ s, ∀ y ∈ t, nd x < nd y := List.pairwise_append.1 h
/-- something is put in the place of what bears its number -/
theorem hput_mid {s t : List α} {x y : α} (ha : Asc nd (s ++ x :: t)) (h : nd y = nd x) : hput nd (s ++ x :: t) y = s ++ y :: t := by
  obtain ⟨h1, h2, h3⟩ := asc_app ha
  have h4 := List.pairwise_cons.1 h2
  have hs : ∀ z ∈ s, nd z < nd y := fun z hz => by rw [h]; exact h3 z hz x List.mem_cons_self
  have ht : ∀ z ∈ t, nd y < nd z := fun z hz => by rw [h]; exact h4.1 z hz
  unfold hput
  rw [List.filter_append, List.filter_append, List.filter_cons, List.filter_cons]
  rw [if_neg (by simp; omega), if_neg (by simp; omega)]
  rw [filter_all (l := s) (fun z hz => by simp [hs z hz]), filter_no (l := t) (fun z hz => by have := ht z hz; simp; omega), filter_no (l := s) (fun z hz => by have := hs z hz; simp; omega), filter_all (l := t) (fun z hz => by simp [ht z hz])]
  simp
theorem hdel_mid {s t : List α} {x : α} (ha : Asc nd (s ++ x :: t)) : hdel nd (s ++ x :: t) (nd x) = s ++ t := by
  obtain ⟨h1, h2, h3⟩ := asc_app ha
  have h4 := List.pairwise_cons.1 h2
  unfold hdel
  rw [List.filter_append, List.filter_cons, if_neg (by simp)]
  rw [filter_all (l := s) (fun z hz => by have := h3 z hz x List.mem_cons_self; simp; omega), filter_all (l := t) (fun z hz => by have := h4.1 z hz; simp; omega)]
theorem hput_far {s : List α} {x : α} (h : ∀ y ∈ s, nd y < nd x) : hput nd s x = s ++ [x] := by
  unfold hput
  rw [filter_all (fun z hz => by simp [h z hz]), filter_no (fun z hz => by have := h z hz; simp; omega)]
theorem hput_step {s : List α} {x y : α} (ha : ∀ z ∈ s, nd z < nd y) (h : nd x < nd y) : hput nd (s ++ [y]) x = hput nd s x ++ [y] := by
  unfold hput
  rw [List.filter_append, List.filter_append, List.filter_cons, List.filter_cons]
  rw [if_neg (by simp; omega), if_pos (by simpa using h)]
  simp
theorem hput_eq {s : List α} {x y : α} (hs : ∀ z ∈ s, nd z < nd x) (h : nd y = nd x) : hput nd (s ++ [y]) x = s ++ [x] := by
  unfold hput
  rw [List.filter_append, List.filter_append, List.filter_cons, List.filter_cons]
  rw [if_neg (by simp; omega), if_neg (by simp; omega)]
  rw [filter_all (l := s) (fun z hz => by simp [hs z hz]), filter_no (l := s) (fun z hz => by have := hs z hz; simp; omega)]
  simp
theorem split_at {l : List α} {i : Nat} {x : α} (h : l[i]? = some x) : ∃ s t, l = s ++ x :: t ∧ s.length = i ∧ s = l.take i ∧ t = l.drop (i + 1) := by
  have hi : i < l.length := (List.getElem?_eq_some_iff.1 h).1
  have hx : l[i] = x := (List.getElem?_eq_some_iff.1 h).2
  refine ⟨l.take i, l.drop (i + 1), ?_, by rw [List.length_take]; omega, rfl, rfl⟩
  rw [← hx, ← List.drop_eq_getElem_cons, List.take_append_drop]
/-- two lists of numbers, rising strictly, with the same members, are one -/
theorem asc_ext : ∀ {a b : List Int}, a.Pairwise (· < ·) → b.Pairwise (· < ·) → (∀ n, n ∈ a ↔ n ∈ b) → a = b
  | [], [], _, _, _ => rfl
  | [], y :: b, _, _, h => by have := (h y).2 List.mem_cons_self; cases this
  | x :: a, [], _, _, h => by have := (h x).1 List.mem_cons_self; cases this
  | x :: a, y :: b, ha, hb, h => by
    have h1 := List.pairwise_cons.1 ha
    have h2 := List.pairwise_cons.1 hb
    have e : x = y := by
      have hx := (h x).1 List.mem_cons_self
      have hy := (h y).2 List.mem_cons_self
      rcases List.mem_cons.1 hx with rfl | hx
      · rfl
      · rcases List.mem_cons.1 hy with rfl | hy
        · rfl
        · have := h2.1 x hx; have := h1.1 y hy; omega
    subst e
    rw [asc_ext h1.2 h2.2 fun n => ?_]
    have hn := h n
    simp only [List.mem_cons] at hn
    constructor
    · intro hm
      rcases hn.1 (.inr hm) with rfl | h3
      · have := h1.1 n hm; omega
      · exact h3
    · intro hm
      rcases hn.2 (.inr hm) with rfl | h3
      · have := h2.1 n hm; omega
      · exact h3
end
end Go.Proofs.Ytidkapanpieflaa
