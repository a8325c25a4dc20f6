-- The holes' operations by their places: what the program's text does to its list.
import Derived.Test.YtdchljjhajbehaaEI
set_option linter.unusedVariables false
set_option linter.unusedSimpArgs false
namespace Go.Proofs.Ytdchljjhajbehaa.Holes
theorem split_at {α : Type} (l : List α) (k : Nat) (h : k < l.length) : l.take k ++ l[k] :: l.drop (k + 1) = l := by
  rw [← List.drop_eq_getElem_cons h, List.take_append_drop]
theorem Is.cut_at {hs : List Ext} {F : Int → Prop} {n : Int} (q : Is hs F n) {k : Nat} (hk : k < hs.length) {e : Ext} (he : 1 ≤ e.2) (h1 : hs[k].1 ≤ e.1) (h2 : e.1 + e.2 ≤ hs[k].1 + hs[k].2) :
    Is (hs.take k ++ rest hs[k] e ++ hs.drop (k + 1)) (fun i => F i ∧ ¬ Cov e i) n := by
  have q' : Is (hs.take k ++ hs[k] :: hs.drop (k + 1)) F n := by rw [split_at hs k hk]; exact q
  exact q'.cut he h1 h2
/-- the first hole that is long enough begins where the first blocks in a row are free -/
theorem Is.first {hs : List Ext} {F : Int → Prop} {n : Int} (q : Is hs F n) {k : Nat} (hk : k < hs.length) {c : Int} (hc : 1 ≤ c) (hb : ∀ j (hj : j < hs.length), j < k → hs[j].2 < c) (i : Int) (hi : i < hs[k].1) : ¬ ∀ x, i ≤ x → x < i + c → F x := by
  intro h
  obtain ⟨j, hj, a, b⟩ := q.within hc h
  rcases Nat.lt_trichotomy j k with d | rfl | d
  · have := hb j hj d; omega
  · omega
  · have := q.before hk hj d
    have := q.pos _ (List.getElem_mem hk)
    omega
theorem Is.none {hs : List Ext} {F : Int → Prop} {n : Int} (q : Is hs F n) {c : Int} (hc : 1 ≤ c) (hb : ∀ h, h ∈ hs → h.2 < c) (i : Int) : ¬ ∀ x, i ≤ x → x < i + c → F x := by
  intro h
  obtain ⟨j, hj, a, b⟩ := q.within hc h
  have := hb _ (List.getElem_mem hj)
  omega
theorem Is.take_none {hs : List Ext} {F : Int → Prop} {n : Int} (q : Is hs F n) {e : Ext} (he : 1 ≤ e.2) (hb : ∀ h, h ∈ hs → ¬ (h.1 ≤ e.1 ∧ e.1 + e.2 ≤ h.1 + h.2)) : ¬ ∀ x, Cov e x → F x := by
  intro h
  obtain ⟨j, hj, a, b⟩ := q.within (a := e.1) he (fun x h1 h2 => h x ⟨h1, h2⟩)
  exact hb _ (List.getElem_mem hj) ⟨a, b⟩
theorem Is.take_some {hs : List Ext} {F : Int → Prop} {n : Int} (q : Is hs F n) {k : Nat} (hk : k < hs.length) {e : Ext} (h : hs[k].1 ≤ e.1 ∧ e.1 + e.2 ≤ hs[k].1 + hs[k].2) : ∀ x, Cov e x → F x := fun x hx => q.holds hk h.1 h.2 x hx.1 hx.2
theorem Is.over {hs : List Ext} {F : Int → Prop} {n : Int} (q : Is hs F n) {e : Ext} (he : 1 ≤ e.2) : (∃ h, h ∈ hs ∧ h.1 < e.1 + e.2 ∧ e.1 < h.1 + h.2) ↔ ∃ x, Cov e x ∧ F x := by
  constructor
  · rintro ⟨h, hh, a, b⟩
    have hp := q.pos h hh
    by_cases c : h.1 ≤ e.1
    · exact ⟨e.1, by unfold Cov; omega, (q.cov _).2 ⟨h, hh, by unfold Cov; omega⟩⟩
    · exact ⟨h.1, by unfold Cov; omega, (q.cov _).2 ⟨h, hh, by unfold Cov; omega⟩⟩
  · rintro ⟨x, hx, hF⟩
    obtain ⟨h, hh, hc⟩ := (q.cov x).1 hF
    exact ⟨h, hh, by unfold Cov at *; omega, by unfold Cov at *; omega⟩
/-- what Free does, by places: from, to, and the extent that is put -/
def fromK (hs : List Ext) (k : Nat) (e : Ext) : Nat × Ext := if h : 0 < k ∧ k ≤ hs.length then if (hs[k - 1]'(by omega)).1 + (hs[k - 1]'(by omega)).2 = e.1 then (k - 1, ((hs[k - 1]'(by omega)).1, (hs[k - 1]'(by omega)).2 + e.2)) else (k, e) else (k, e)
def toK (hs : List Ext) (k : Nat) (e : Ext) : Nat × Ext := if h : k < hs.length then if e.1 + e.2 = hs[k].1 then (k + 1, (e.1, e.2 + hs[k].2)) else (k, e) else (k, e)
def freeK (hs : List Ext) (k : Nat) (e : Ext) : List Ext := hs.take (fromK hs k e).1 ++ [(toK hs k (fromK hs k e).2).2] ++ hs.drop (toK hs k (fromK hs k e).2).1
theorem Is.free_at {hs : List Ext} {F : Int → Prop} {n : Int} (q : Is hs F n) {k : Nat} (hk : k ≤ hs.length) {e : Ext} (h1 : 1 ≤ e.2) (h2 : 0 ≤ e.1) (h3 : e.1 + e.2 ≤ n) (h4 : ∀ i, Cov e i → ¬ F i)
    (ha : ∀ j (hj : j < hs.length), j < k → hs[j].1 ≤ e.1) (hb : ∀ j (hj : j < hs.length), k ≤ j → e.1 < hs[j].1) : Is (freeK hs k e) (fun i => F i ∨ Cov e i) n := by
  have q' : Is (hs.take k ++ hs.drop k) F n := by rw [List.take_append_drop]; exact q
  have fr := (Fr.of q' h1 h2 h3 h4 (fun x hx => by
    obtain ⟨j, hj, rfl⟩ := List.mem_take_iff_getElem.1 hx
    exact ha j (by omega) (by omega)) (fun x hx => by
    obtain ⟨j, hj, rfl⟩ := List.getElem_of_mem hx
    rw [List.length_drop] at hj
    rw [List.getElem_drop]
    exact hb (k + j) (by omega) (by omega))).free
  have eL : (joinL (hs.take k) e).1 = hs.take (fromK hs k e).1 ∧ (joinL (hs.take k) e).2 = (fromK hs k e).2 := by
    unfold joinL fromK
    by_cases c : 0 < k
    · have hl : (hs.take k).getLast? = some (hs[k - 1]'(by omega)) := by
        rw [List.getLast?_eq_getElem?, List.length_take, Nat.min_eq_left hk, List.getElem?_take, if_pos (by omega), List.getElem?_eq_getElem (by omega)]
      rw [hl, dif_pos ⟨c, hk⟩]
      dsimp only
      split
      · refine ⟨?_, rfl⟩
        rw [List.dropLast_eq_take, List.length_take, Nat.min_eq_left hk, List.take_take, Nat.min_eq_left (by omega)]
      · exact ⟨rfl, rfl⟩
    · obtain rfl : k = 0 := by omega
      rw [dif_neg (by omega), List.take_zero]
      exact ⟨rfl, rfl⟩
  have eR : ∀ e : Ext, (joinR e (hs.drop k)).1 = (toK hs k e).2 ∧ (joinR e (hs.drop k)).2 = hs.drop (toK hs k e).1 := fun e => by
    unfold joinR toK
    by_cases c : k < hs.length
    · rw [dif_pos c, List.drop_eq_getElem_cons c]
      dsimp only
      split
      · exact ⟨rfl, rfl⟩
      · exact ⟨rfl, (List.drop_eq_getElem_cons c).symm⟩
    · rw [dif_neg c, List.drop_eq_nil_of_le (by omega)]
      exact ⟨rfl, rfl⟩
  rw [eL.1, eL.2, (eR _).1, (eR _).2] at fr
  exact fr
/-- a hole's end lies below n, its length is at most n -/
theorem Is.small {hs : List Ext} {F : Int → Prop} {n : Int} (q : Is hs F n) (hn : 0 ≤ n) : ∀ (A B : List Ext), hs = A ++ B → ∀ a : Int, (∀ h, h ∈ B → a ≤ h.1) → (B.length : Int) ≤ n - a ∨ B = []
  | A, [], _, a, _ => .inr rfl
  | A, h :: B, e, a, ha => by
    left
    have hp := q.pos h (by rw [e]; simp)
    have h1 := ha h (by simp)
    have hs' := q.sep
    rw [e] at hs'
    have hB := (List.pairwise_cons.1 (List.pairwise_append.1 hs').2.1).1
    rcases Is.small q hn (A ++ [h]) B (by rw [e]; simp) (h.1 + h.2) (fun x hx => by have := hB x hx; unfold Gap at this; omega) with r | r
    · simp only [List.length_cons]; omega
    · rw [r]; simp; omega
theorem Is.length_le {hs : List Ext} {F : Int → Prop} {n : Int} (q : Is hs F n) (hn : 0 ≤ n) : (hs.length : Int) ≤ n := by
  rcases q.small hn [] hs rfl 0 (fun h hh => (q.pos h hh).2.1) with r | r
  · omega
  · rw [r]; simpa using hn
end Go.Proofs.Ytdchljjhajbehaa.Holes
