-- The document's map of layer 5, a list of truths (taken), and the holes it has.
import Derived.Test.YtdchljjhajbehaaEH
set_option linter.unusedVariables false
set_option linter.unusedSimpArgs false
namespace Go.Proofs.Ytdchljjhajbehaa.Holes
/-- block i is free -/
def Fr8 (t : List Bool) (i : Int) : Prop := 0 ≤ i ∧ i < (t.length : Int) ∧ t.getD i.toNat true = false
/-- a map with an extent taken (v), or not -/
def setR (t : List Bool) (e : Ext) (v : Bool) : List Bool := (List.range t.length).map fun (j : Nat) => if e.1 ≤ (j : Int) ∧ (j : Int) < e.1 + e.2 then v else t.getD j true
theorem setR_length (t : List Bool) (e : Ext) (v : Bool) : (setR t e v).length = t.length := by simp [setR]
theorem setR_getD (t : List Bool) (e : Ext) (v : Bool) (j : Nat) (h : j < t.length) : (setR t e v).getD j true = if e.1 ≤ (j : Int) ∧ (j : Int) < e.1 + e.2 then v else t.getD j true := by
  simp [setR, List.getD_eq_getElem?_getD, h]
theorem fr_take (t : List Bool) (e : Ext) (i : Int) : Fr8 (setR t e true) i ↔ Fr8 t i ∧ ¬ Cov e i := by
  unfold Fr8
  rw [setR_length]
  by_cases h : 0 ≤ i ∧ i < (t.length : Int)
  · rw [setR_getD t e true i.toNat (by omega), Int.toNat_of_nonneg h.1]
    unfold Cov
    by_cases c : e.1 ≤ i ∧ i < e.1 + e.2
    · rw [if_pos c]; simp [c]
    · rw [if_neg c]; simp [c]
  · constructor
    · rintro ⟨a, b, _⟩; exact absurd ⟨a, b⟩ h
    · rintro ⟨⟨a, b, _⟩, _⟩; exact absurd ⟨a, b⟩ h
theorem fr_free (t : List Bool) (e : Ext) (h1 : 0 ≤ e.1) (h2 : e.1 + e.2 ≤ (t.length : Int)) (i : Int) : Fr8 (setR t e false) i ↔ Fr8 t i ∨ Cov e i := by
  unfold Fr8
  rw [setR_length]
  by_cases h : 0 ≤ i ∧ i < (t.length : Int)
  · rw [setR_getD t e false i.toNat (by omega), Int.toNat_of_nonneg h.1]
    unfold Cov
    by_cases c : e.1 ≤ i ∧ i < e.1 + e.2
    · rw [if_pos c]; simp [c, h]
    · rw [if_neg c]; simp [c]
  · constructor
    · rintro ⟨a, b, _⟩; exact absurd ⟨a, b⟩ h
    · rintro (⟨a, b, _⟩ | c)
      · exact absurd ⟨a, b⟩ h
      · unfold Cov at c; exact absurd ⟨by omega, by omega⟩ h
/-- the holes of the first i blocks, told one behind the other as the document tells them -/
structure Upto (t : List Bool) (i : Nat) (out : List Ext) : Prop where
  is : Is out (fun j => Fr8 t j ∧ j < (i : Int)) (t.length : Int)
  last : ∀ A h, out = A ++ [h] → h.1 + h.2 ≤ (i : Int)
  beside : 0 < i → t.getD (i - 1) true = false → ∃ A h, out = A ++ [h] ∧ h.1 + h.2 = (i : Int)
  count : (out.map (·.2)).sum = (((t.take i).filter (fun b => !b)).length : Int)
theorem Upto.zero (t : List Bool) : Upto t 0 [] := ⟨⟨List.Pairwise.nil, fun h hh => absurd hh List.not_mem_nil, fun i => ⟨fun h => by have := h.1.1; have := h.2; omega, fun ⟨h, hh, _⟩ => absurd hh List.not_mem_nil⟩⟩, fun A h e => by simp at e, fun h => absurd h (Nat.lt_irrefl 0), by simp⟩
theorem sum_le_of {out : List Ext} {n : Nat} {F : Int → Prop} (q : Is out F (n : Int)) : (out.map (·.2)).sum ≤ (n : Int) ∧ 0 ≤ (out.map (·.2)).sum := by
  have key : ∀ (l : List Ext) (a : Int), l.Pairwise Gap → (∀ h, h ∈ l → 1 ≤ h.2 ∧ a ≤ h.1 ∧ h.1 + h.2 ≤ (n : Int)) → a ≤ (n : Int) → (l.map (·.2)).sum ≤ (n : Int) - a ∧ 0 ≤ (l.map (·.2)).sum := by
    intro l
    induction l with
    | nil => intro a _ _ h; simp; omega
    | cons x l ih =>
      intro a hp hb ha
      obtain ⟨p1, p2⟩ := List.pairwise_cons.1 hp
      have hx := hb x (by simp)
      have := ih (x.1 + x.2) p2 (fun h hh => by
        have h1 := hb h (List.mem_cons_of_mem _ hh)
        have h2 := p1 h hh
        unfold Gap at h2
        exact ⟨h1.1, by omega, h1.2.2⟩) hx.2.2
      simp only [List.map_cons, List.sum_cons]
      omega
  have := key out 0 q.sep (fun h hh => by have := q.pos h hh; omega) (by omega)
  omega
theorem Upto.skip {t : List Bool} {i : Nat} {out : List Ext} (u : Upto t i out) (hi : i < t.length) (h : t.getD i true = true) : Upto t (i + 1) out := by
  refine ⟨u.is.congr fun j => ?_, fun A h e => ?_, fun _ hq => ?_, ?_⟩
  · constructor
    · rintro ⟨a, b⟩; exact ⟨a, by omega⟩
    · rintro ⟨a, b⟩
      refine ⟨a, Classical.byContradiction fun c => ?_⟩
      obtain rfl : j = (i : Int) := by omega
      have := a.2.2
      rw [Int.toNat_natCast, h] at this
      cases this
  · have := u.last A h e; omega
  · rw [Nat.add_sub_cancel, h] at hq; cases hq
  · rw [u.count, List.take_succ_eq_append_getElem hi, List.filter_append]
    have : t[i] = true := by rw [← h, List.getD_eq_getElem?_getD, List.getElem?_eq_getElem hi]; rfl
    rw [this]
    simp
theorem Upto.more {t : List Bool} {i : Nat} {A : List Ext} {h : Ext} (u : Upto t i (A ++ [h])) (hi : i < t.length) (hf : t.getD i true = false) (hb : h.1 + h.2 = (i : Int)) : Upto t (i + 1) (A ++ [(h.1, h.2 + 1)]) := by
  obtain ⟨⟨sep, pos, cov⟩, last, beside, count⟩ := u
  obtain ⟨s1, s2, s3⟩ := List.pairwise_append.1 sep
  have hp := pos h (by simp)
  refine ⟨⟨List.pairwise_append.2 ⟨s1, by simp, fun x hx y hy => ?_⟩, fun x hx => ?_, fun j => ?_⟩, fun A' h' e => ?_, fun _ _ => ⟨A, _, rfl, by dsimp only; omega⟩, ?_⟩
  · rw [List.mem_singleton.1 hy]; exact s3 x hx h (by simp)
  · rcases List.mem_append.1 hx with hx | hx
    · exact pos x (by simp [hx])
    · rw [List.mem_singleton.1 hx]; dsimp only; omega
  · constructor
    · rintro ⟨a, b⟩
      by_cases c : j = (i : Int)
      · exact ⟨(h.1, h.2 + 1), by simp, by unfold Cov; dsimp only; omega⟩
      · obtain ⟨x, hx, hc⟩ := (cov j).1 ⟨a, by omega⟩
        rcases List.mem_append.1 hx with hx | hx
        · exact ⟨x, by simp [hx], hc⟩
        · rw [List.mem_singleton.1 hx] at hc
          exact ⟨(h.1, h.2 + 1), by simp, by unfold Cov at *; dsimp only; omega⟩
    · rintro ⟨x, hx, hc⟩
      rcases List.mem_append.1 hx with hx | hx
      · obtain ⟨a, b⟩ := (cov j).2 ⟨x, by simp [hx], hc⟩
        exact ⟨a, by omega⟩
      · rw [List.mem_singleton.1 hx] at hc
        unfold Cov at hc
        dsimp only at hc
        by_cases c : j = (i : Int)
        · subst c; exact ⟨⟨by omega, by omega, by rw [Int.toNat_natCast]; exact hf⟩, by omega⟩
        · obtain ⟨a, b⟩ := (cov j).2 ⟨h, by simp, by unfold Cov; omega⟩
          exact ⟨a, by omega⟩
  · obtain ⟨_, e2⟩ := List.append_inj' e rfl
    obtain rfl := (List.cons.inj e2).1
    dsimp only; omega
  · rw [List.take_succ_eq_append_getElem hi, List.filter_append]
    have : t[i] = false := by rw [← hf, List.getD_eq_getElem?_getD, List.getElem?_eq_getElem hi]; rfl
    rw [this]
    simp only [List.map_append, List.sum_append, List.map_cons, List.map_nil, List.sum_cons, List.sum_nil] at count ⊢
    simp
    omega
theorem Upto.new {t : List Bool} {i : Nat} {out : List Ext} (u : Upto t i out) (hi : i < t.length) (hf : t.getD i true = false) (hb : i = 0 ∨ t.getD (i - 1) true = true) : Upto t (i + 1) (out ++ [((i : Int), 1)]) := by
  have hlast : ∀ x, x ∈ out → x.1 + x.2 < (i : Int) := by
    intro x hx
    have hp := u.is.pos x hx
    have hF := (u.is.cov (x.1 + x.2 - 1)).2 ⟨x, hx, by unfold Cov; omega⟩
    refine Classical.byContradiction fun hn => ?_
    have e : x.1 + x.2 - 1 = ((i - 1 : Nat) : Int) := by omega
    rcases hb with rfl | hb
    · have := hF.2; omega
    · have h3 := hF.1.2.2
      rw [e, Int.toNat_natCast, hb] at h3
      cases h3
  refine ⟨⟨List.pairwise_append.2 ⟨u.is.sep, by simp, fun x hx y hy => by rw [List.mem_singleton.1 hy]; exact hlast x hx⟩, fun x hx => ?_, fun j => ?_⟩, fun A' h' e => ?_, fun _ _ => ⟨out, _, rfl, by dsimp only; omega⟩, ?_⟩
  · rcases List.mem_append.1 hx with hx | hx
    · exact u.is.pos x hx
    · rw [List.mem_singleton.1 hx]; dsimp only; omega
  · constructor
    · rintro ⟨a, b⟩
      by_cases c : j = (i : Int)
      · exact ⟨((i : Int), 1), by simp, by unfold Cov; dsimp only; omega⟩
      · obtain ⟨x, hx, hc⟩ := (u.is.cov j).1 ⟨a, by omega⟩
        exact ⟨x, by simp [hx], hc⟩
    · rintro ⟨x, hx, hc⟩
      rcases List.mem_append.1 hx with hx | hx
      · obtain ⟨a, b⟩ := (u.is.cov j).2 ⟨x, hx, hc⟩
        exact ⟨a, by omega⟩
      · rw [List.mem_singleton.1 hx] at hc
        unfold Cov at hc
        dsimp only at hc
        obtain rfl : j = (i : Int) := by omega
        exact ⟨⟨by omega, by omega, by rw [Int.toNat_natCast]; exact hf⟩, by omega⟩
  · obtain ⟨_, e2⟩ := List.append_inj' e rfl
    obtain rfl := (List.cons.inj e2).1
    dsimp only; omega
  · rw [List.take_succ_eq_append_getElem hi, List.filter_append]
    have : t[i] = false := by rw [← hf, List.getD_eq_getElem?_getD, List.getElem?_eq_getElem hi]; rfl
    rw [this]
    have hc := u.count
    simp only [List.map_append, List.sum_append, List.map_cons, List.map_nil, List.sum_cons, List.sum_nil]
    simp
    omega
theorem Upto.end {t : List Bool} {out : List Ext} (u : Upto t t.length out) : Is out (Fr8 t) (t.length : Int) ∧ (out.map (·.2)).sum = ((t.filter (fun b => !b)).length : Int) := by
  refine ⟨u.is.congr fun i => ⟨fun h => h.1, fun h => ⟨h, h.2.1⟩⟩, ?_⟩
  have := u.count
  rwa [List.take_length] at this
end Go.Proofs.Ytdchljjhajbehaa.Holes
