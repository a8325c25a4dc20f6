-- Orders: numbers that are each place once, turned, and the way from one to another.
import Derived.Test.YtbmlfbbcgbgnoaaPrint1
import Derived.Test.YtbmlfbbcgbgnoaaPrint7
import Derived.Test.YtbmlfbbcgbgnoaaSG
set_option linter.unusedVariables false
set_option linter.unusedSimpArgs false
namespace Go.Proofs.Ytbmlfbbcgbgnoaa.Print
open Go.RowKit Go.Proofs.YtbmlfbbcgbgnoaaW.PrintWords Go.Proofs.YtbmlfbbcgbgnoaaW.PrintMore
/-! ### plain: orders -/
theorem nodup_len {α : Type} [DecidableEq α] : ∀ (l m : List α), l.Nodup → (∀ x, x ∈ l → x ∈ m) → l.length ≤ m.length
  | [], _, _, _ => by simp
  | x :: l, m, hn, hs => by
    have hn' := List.nodup_cons.1 hn
    have hx : x ∈ m := hs x List.mem_cons_self
    have := nodup_len l (m.erase x) hn'.2 (fun y hy => by
      have hne : y ≠ x := fun e => hn'.1 (e ▸ hy)
      exact (List.mem_erase_of_ne hne).2 (hs y (List.mem_cons_of_mem _ hy)))
    rw [List.length_erase_of_mem hx] at this
    have hpos : 0 < m.length := List.length_pos_of_mem hx
    simp only [List.length_cons]
    omega
/-- numbers that are each place below n once -/
def Ord (n : Nat) (l : List Int) : Prop := l.length = n ∧ (∀ i : Nat, i < n → 0 ≤ rd l (i : Int) ∧ rd l (i : Int) < (n : Int)) ∧ ∀ i j : Nat, i < n → j < n → rd l (i : Int) = rd l (j : Int) → i = j
theorem Ord.onto {n : Nat} {l : List Int} (h : Ord n l) (j : Nat) (hj : j < n) : ∃ i : Nat, i < n ∧ rd l (i : Int) = (j : Int) := by
  obtain ⟨hl, hr, hi⟩ := h
  refine Classical.byContradiction fun hno => ?_
  have hmem : (j : Int) ∉ l := fun hm => by
    obtain ⟨i, h1, h2⟩ := List.getElem_of_mem hm
    exact hno ⟨i, by omega, by rw [rd_get l i h1, h2]⟩
  have hnd : l.Nodup := by
    unfold List.Nodup
    rw [List.pairwise_iff_getElem]
    intro a b ha hb hab he
    have := hi a b (by omega) (by omega) (by rw [rd_get l a ha, rd_get l b hb, he])
    omega
  have := nodup_len ((j : Int) :: l) ((List.range n).map (fun x : Nat => (x : Int))) (List.nodup_cons.2 ⟨hmem, hnd⟩) (fun x hx => by
    rcases List.mem_cons.1 hx with rfl | hx
    · exact List.mem_map.2 ⟨j, List.mem_range.2 hj, rfl⟩
    · obtain ⟨i, h1, h2⟩ := List.getElem_of_mem hx
      have := hr i (by omega)
      rw [rd_get l i h1, h2] at this
      exact List.mem_map.2 ⟨x.toNat, List.mem_range.2 (by omega), by omega⟩)
  simp at this
  omega
theorem list_eq_rd {l m : List Int} (h : l.length = m.length) (he : ∀ i : Nat, i < l.length → rd l (i : Int) = rd m (i : Int)) : l = m :=
  List.ext_getElem h fun i h1 h2 => by rw [← rd_get l i h1, ← rd_get m i h2, he i h1]
/-- the way back: t leads from what l says to where it says so -/
def Back (n : Nat) (l t : List Int) : Prop := t.length = n ∧ ∀ i : Nat, i < n → rd t (rd l (i : Int)) = (i : Int)
theorem Back.eq {n : Nat} {l t u : List Int} (hl : Ord n l) (ht : Back n l t) (hu : Back n l u) : t = u := by
  refine list_eq_rd (by rw [ht.1, hu.1]) fun j hj => ?_
  obtain ⟨i, hi, he⟩ := hl.onto j (by rw [ht.1] at hj; exact hj)
  rw [← he, ht.2 i hi, hu.2 i hi]
theorem Back.to {n : Nat} {l t : List Int} (hl : Ord n l) (ht : Back n l t) (j : Nat) (hj : j < n) : rd l (rd t (j : Int)) = (j : Int) := by
  obtain ⟨i, hi, he⟩ := hl.onto j hj
  rw [← he, ht.2 i hi]
theorem Back.ord {n : Nat} {l t : List Int} (hl : Ord n l) (ht : Back n l t) : Ord n t := by
  refine ⟨ht.1, fun j hj => ?_, fun a b ha hb he => ?_⟩
  · obtain ⟨i, hi, he⟩ := hl.onto j hj
    rw [← he, ht.2 i hi]
    omega
  · have h1 := ht.to hl a ha
    have h2 := ht.to hl b hb
    rw [he] at h1
    omega
theorem Back.back {n : Nat} {l t : List Int} (hl : Ord n l) (ht : Back n l t) : Back n t l := ⟨hl.1, fun j hj => ht.to hl j hj⟩
/-- what stands where an order leads -/
def via (a t : List Int) : List Int := a.map fun x => rd t x
theorem via_length (a t : List Int) : (via a t).length = a.length := by simp [via]
theorem via_rd (a t : List Int) (i : Nat) (h : i < a.length) : rd (via a t) (i : Int) = rd t (rd a (i : Int)) := by
  rw [rd_get _ i (by rw [via_length]; exact h), rd_get a i h]
  simp [via]
theorem nat_of {x : Int} {n : Nat} (h : 0 ≤ x ∧ x < (n : Int)) : ∃ j : Nat, j < n ∧ x = (j : Int) := ⟨x.toNat, by omega, by omega⟩
theorem Ord.via {n : Nat} {a t : List Int} (ha : Ord n a) (ht : Ord n t) : Ord n (via a t) := by
  refine ⟨by rw [via_length, ha.1], fun i hi => ?_, fun i j hi hj he => ?_⟩
  · rw [via_rd _ _ i (by rw [ha.1]; exact hi)]
    obtain ⟨p, hp, e⟩ := nat_of (ha.2.1 i hi)
    rw [e]
    exact ht.2.1 p hp
  · rw [via_rd _ _ i (by rw [ha.1]; exact hi), via_rd _ _ j (by rw [ha.1]; exact hj)] at he
    obtain ⟨p, hp, e⟩ := nat_of (ha.2.1 i hi)
    obtain ⟨q, hq, e'⟩ := nat_of (ha.2.1 j hj)
    rw [e, e'] at he
    have := ht.2.2 p q hp hq he
    subst this
    exact ha.2.2 i j hi hj (by rw [e, e'])
/-- there and back between two orders -/
theorem between_back {n : Nat} {a b s t : List Int} (ha : Ord n a) (hb : Ord n b) (hs : Back n a s) (ht : Back n b t) : Back n (via b s) (via a t) := by
  refine ⟨by rw [via_length, ha.1], fun i hi => ?_⟩
  rw [via_rd _ _ i (by rw [hb.1]; exact hi)]
  obtain ⟨p, hp, e⟩ := nat_of (hb.2.1 i hi)
  rw [e]
  obtain ⟨q, hq, e'⟩ := nat_of ((hs.ord ha).2.1 p hp)
  rw [e', via_rd _ _ q (by rw [ha.1]; exact hq), ← e', hs.to ha p hp, ← e, ht.2 i hi]
/-! ### the loops' plain forms -/
/-- numbers looked through from a place on, with those that were seen -/
def okL (n : Int) : List Int → List Bool → Bool
  | [], _ => true
  | x :: xs, seen => if x < 0 ∨ n ≤ x ∨ rdOf false seen x = true then false else okL n xs (seen.set x.toNat true)
theorem okL_yes {n x : Int} {xs : List Int} {seen : List Bool} (h : x < 0 ∨ n ≤ x ∨ rdOf false seen x = true) : okL n (x :: xs) seen = false := if_pos h
theorem okL_no {n x : Int} {xs : List Int} {seen : List Bool} (h : ¬ (x < 0 ∨ n ≤ x ∨ rdOf false seen x = true)) : okL n (x :: xs) seen = okL n xs (seen.set x.toNat true) := if_neg h
def isOrd (l : List Int) : Bool := decide (l.length ≤ 4096) && okL (l.length : Int) l (List.replicate l.length false)
theorem rdOf_set (seen : List Bool) (x y : Int) (hx : 0 ≤ x ∧ x < (seen.length : Int)) (hy : 0 ≤ y) : rdOf false (seen.set x.toNat true) y = if y = x then true else rdOf false seen y := by
  unfold rdOf
  simp only [List.getD_eq_getElem?_getD]
  by_cases e : y = x
  · subst e
    rw [List.getElem?_set_self (by omega), if_pos rfl]
    rfl
  · rw [List.getElem?_set_ne (by omega), if_neg e]
theorem okL_iff (n : Nat) : ∀ (xs : List Int) (seen : List Bool), seen.length = n →
    (okL (n : Int) xs seen = true ↔ (∀ x, x ∈ xs → 0 ≤ x ∧ x < (n : Int) ∧ rdOf false seen x = false) ∧ xs.Nodup)
  | [], seen, h => by simp [okL]
  | x :: xs, seen, h => by
    unfold okL
    by_cases hb : x < 0 ∨ (n : Int) ≤ x ∨ rdOf false seen x = true
    · rw [if_pos hb]
      constructor
      · intro h; exact absurd h (by decide)
      · rintro ⟨h1, _⟩
        have := h1 x List.mem_cons_self
        rcases hb with hb | hb | hb
        · omega
        · omega
        · rw [this.2.2] at hb; exact absurd hb (by decide)
    · rw [if_neg hb, okL_iff n xs _ (by rw [List.length_set]; exact h), List.nodup_cons]
      have hx : 0 ≤ x ∧ x < (seen.length : Int) := by omega
      constructor
      · rintro ⟨h1, h2⟩
        refine ⟨fun y hy => ?_, fun hm => ?_, h2⟩
        · rcases List.mem_cons.1 hy with rfl | hy
          · refine ⟨by omega, by omega, ?_⟩
            cases hr : rdOf false seen y with
            | false => rfl
            | true => exact absurd (.inr (.inr hr)) hb
          · have := h1 y hy
            rw [rdOf_set _ _ _ hx this.1] at this
            by_cases e : y = x
            · rw [if_pos e] at this; exact absurd this.2.2 (by decide)
            · rw [if_neg e] at this; exact this
        · have := h1 x hm
          rw [rdOf_set _ _ _ hx this.1, if_pos rfl] at this
          exact absurd this.2.2 (by decide)
      · rintro ⟨h1, h2, h3⟩
        refine ⟨fun y hy => ?_, h3⟩
        have := h1 y (List.mem_cons_of_mem _ hy)
        rw [rdOf_set _ _ _ hx this.1, if_neg (fun e : y = x => h2 (e ▸ hy))]
        exact this
theorem rdOf_replicate (n : Nat) (x : Int) : rdOf false (List.replicate n false) x = false := by
  unfold rdOf
  rw [List.getD_eq_getElem?_getD, List.getElem?_replicate]
  split <;> rfl
theorem isOrd_ord {l : List Int} (h : isOrd l = true) : l.length ≤ 4096 ∧ Ord l.length l := by
  unfold isOrd at h
  rw [Bool.and_eq_true, decide_eq_true_eq, okL_iff l.length l _ (by simp)] at h
  refine ⟨h.1, rfl, fun i hi => ?_, fun i j hi hj he => ?_⟩
  · have := h.2.1 _ (rd_mem l i hi)
    exact ⟨this.1, this.2.1⟩
  · rw [rd_get l i hi, rd_get l j hj] at he
    have hn := h.2.2
    unfold List.Nodup at hn
    rw [List.pairwise_iff_getElem] at hn
    rcases Nat.lt_trichotomy i j with hlt | hlt | hlt
    · exact absurd he (hn i j hi hj hlt)
    · exact hlt
    · exact absurd he.symm (hn j i hj hi hlt)
theorem ord_isOrd {l : List Int} (h4 : l.length ≤ 4096) {n : Nat} (h : Ord n l) : isOrd l = true := by
  obtain ⟨h0, h1, h2⟩ := h
  subst h0
  unfold isOrd
  rw [Bool.and_eq_true, decide_eq_true_eq, okL_iff l.length l _ (by simp)]
  refine ⟨h4, fun x hx => ?_, ?_⟩
  · obtain ⟨i, hi, rfl⟩ := List.getElem_of_mem hx
    have := h1 i hi
    rw [rd_get l i hi] at this
    exact ⟨this.1, this.2, rdOf_replicate _ _⟩
  · unfold List.Nodup
    rw [List.pairwise_iff_getElem]
    intro a b ha hb hab he
    have := h2 a b ha hb (by rw [rd_get l a ha, rd_get l b hb, he])
    omega
/-- places put where numbers say -/
def turnL : List Int → Nat → List Int → List Int
  | [], _, out => out
  | x :: xs, i, out => turnL xs (i + 1) (out.set x.toNat (i : Int))
def turnR (l : List Int) : List Int := turnL l 0 (List.replicate l.length 0)
theorem rd_set (l : List Int) (x y v : Int) (hx : 0 ≤ x ∧ x < (l.length : Int)) (hy : 0 ≤ y) : rd (l.set x.toNat v) y = if y = x then v else rd l y := by
  unfold rd
  simp only [List.getD_eq_getElem?_getD]
  by_cases e : y = x
  · subst e
    rw [List.getElem?_set_self (by omega), if_pos rfl]
    rfl
  · rw [List.getElem?_set_ne (by omega), if_neg e]
theorem turnL_length : ∀ (xs : List Int) (i : Nat) (out : List Int), (turnL xs i out).length = out.length
  | [], _, _ => rfl
  | x :: xs, i, out => by
    unfold turnL
    rw [turnL_length xs, List.length_set]
theorem turnL_rd (n : Nat) : ∀ (xs : List Int) (i : Nat) (out : List Int), out.length = n → (∀ x, x ∈ xs → 0 ≤ x ∧ x < (n : Int)) → xs.Nodup →
    (∀ y : Int, 0 ≤ y → y ∉ xs → rd (turnL xs i out) y = rd out y) ∧ ∀ j (hj : j < xs.length), rd (turnL xs i out) xs[j] = ((i + j : Nat) : Int)
  | [], i, out, ho, hr, hn => ⟨fun y hy hm => rfl, fun j hj => absurd hj (by simp)⟩
  | x :: xs, i, out, ho, hr, hn => by
    have hx := hr x List.mem_cons_self
    obtain ⟨h1, h2⟩ := turnL_rd n xs (i + 1) (out.set x.toNat (i : Int)) (by rw [List.length_set]; exact ho) (fun y hy => hr y (List.mem_cons_of_mem _ hy)) (List.nodup_cons.1 hn).2
    refine ⟨fun y hy hm => ?_, fun j hj => ?_⟩
    · unfold turnL
      rw [h1 y hy (fun h => hm (List.mem_cons_of_mem _ h)), rd_set _ _ _ _ (by omega) hy, if_neg (fun e : y = x => hm (e ▸ List.mem_cons_self))]
    · unfold turnL
      match j, hj with
      | 0, _ =>
        show rd (turnL xs (i + 1) _) x = _
        rw [h1 x hx.1 (List.nodup_cons.1 hn).1, rd_set _ _ _ _ (by omega) hx.1, if_pos rfl]
        rfl
      | j + 1, hj =>
        have hj' : j < xs.length := by simpa using hj
        show rd (turnL xs (i + 1) _) (xs[j]'hj') = _
        rw [h2 j hj']
        omega
theorem turnR_back {l : List Int} (h : Ord l.length l) : Back l.length l (turnR l) := by
  obtain ⟨_, hr, hi⟩ := h
  have hnd : l.Nodup := by
    unfold List.Nodup
    rw [List.pairwise_iff_getElem]
    intro a b ha hb hab he
    have := hi a b (by omega) (by omega) (by rw [rd_get l a ha, rd_get l b hb, he])
    omega
  have := (turnL_rd l.length l 0 (List.replicate l.length 0) (by simp) (fun x hx => by
    obtain ⟨i, hi, rfl⟩ := List.getElem_of_mem hx
    have := hr i hi
    rw [rd_get l i hi] at this
    exact this) hnd).2
  refine ⟨by unfold turnR; rw [turnL_length, List.length_replicate], fun i hi => ?_⟩
  rw [rd_get l i hi]
  unfold turnR
  rw [this i hi, Nat.zero_add]
/-! ### what the functions tell -/
theorem check_loop (l : List Int) (hl : l.length ≤ 4096) : ∀ (d i : Nat) (seen : List Bool), i + d = l.length → seen.length = l.length →
    Ev (fun k => jindex_Check.l0 k l seen l (l.length : Int) (i : Int)) (if okL (l.length : Int) (l.drop i) seen = true then 0 else 1)
  | 0, i, seen, h, hs => by
    refine Ev.step (fun k => jindex_Check.l0_succ k _ _ _ _ _) (Ev.no (by omega) (Ev.val ?_))
    rw [List.drop_of_length_le (by omega)]
    rfl
  | d + 1, i, seen, h, hs => by
    refine Ev.step (fun k => jindex_Check.l0_succ k _ _ _ _ _) (Ev.yes (by omega) (Ev.yes (by omega) (Ev.yes (by omega) ?_)))
    rw [drop_rd l i (by omega)]
    by_cases h1 : rd l (i : Int) < 0
    · refine Ev.yes h1 (Ev.val ?_)
      rw [okL_yes (.inl h1)]
      rfl
    refine Ev.no h1 ?_
    by_cases h2 : rd l (i : Int) ≥ (l.length : Int)
    · refine Ev.yes h2 (Ev.val ?_)
      rw [okL_yes (.inr (.inl h2))]
      rfl
    refine Ev.no h2 (Ev.yes (by omega) (Ev.yes (by omega) ?_))
    by_cases h3 : rdOf false seen (rd l (i : Int)) = true
    · refine Ev.yes h3 (Ev.val ?_)
      rw [okL_yes (.inr (.inr h3))]
      rfl
    refine Ev.no h3 ?_
    rw [okL_no (fun h => by rcases h with h | h | h; exact h1 h; exact h2 h; exact h3 h), show wrap64 ((i : Int) + 1) = ((i + 1 : Nat) : Int) by unfold wrap64; omega]
    exact check_loop l hl d (i + 1) _ (by omega) (by rw [List.length_set]; exact hs)
theorem check_ev (l : List Int) : Ev (fun k => jindex_Check.f k l) (if isOrd l = true then 0 else 1) := by
  unfold jindex_Check.f
  by_cases h : (l.length : Int) > 4096
  · refine Ev.yes h (Ev.val ?_)
    rw [if_neg]
    unfold isOrd
    rw [Bool.and_eq_true, decide_eq_true_eq]
    omega
  refine Ev.no h (Ev.yes (by omega) (Ev.yes (by omega) ?_))
  have := check_loop l (by omega) l.length 0 (List.replicate l.length false) (by omega) (by simp)
  rw [Int.toNat_natCast]
  have e : isOrd l = okL (l.length : Int) l (List.replicate l.length false) := by
    unfold isOrd
    rw [decide_eq_true (show l.length ≤ 4096 by omega), Bool.true_and]
  rw [e]
  exact this
theorem may_loop (l : List Int) (hl : l.length ≤ 4096) : ∀ (d i : Nat) (seen : List Bool), i + d = l.length → seen.length = l.length →
    Ev (fun k => peristyleref26_May.l0 k l seen (i : Int)) (okL (l.length : Int) (l.drop i) seen)
  | 0, i, seen, h, hs => by
    refine Ev.step (fun k => peristyleref26_May.l0_succ k _ _ _) (Ev.no (by omega) (Ev.val ?_))
    rw [List.drop_of_length_le (by omega)]
    rfl
  | d + 1, i, seen, h, hs => by
    refine Ev.step (fun k => peristyleref26_May.l0_succ k _ _ _) (Ev.yes (by omega) (Ev.yes (by omega) ?_))
    rw [drop_rd l i (by omega)]
    by_cases h1 : rd l (i : Int) < 0
    · refine Ev.yes h1 (Ev.val ?_)
      rw [okL_yes (.inl h1)]
    refine Ev.no h1 ?_
    by_cases h2 : rd l (i : Int) ≥ (l.length : Int)
    · refine Ev.yes h2 (Ev.val ?_)
      rw [okL_yes (.inr (.inl h2))]
    refine Ev.no h2 (Ev.yes (by omega) (Ev.yes (by omega) ?_))
    by_cases h3 : rdOf false seen (rd l (i : Int)) = true
    · refine Ev.yes h3 (Ev.val ?_)
      rw [okL_yes (.inr (.inr h3))]
    refine Ev.no h3 ?_
    rw [okL_no (fun h => by rcases h with h | h | h; exact h1 h; exact h2 h; exact h3 h), show wrap64 ((i : Int) + 1) = ((i + 1 : Nat) : Int) by unfold wrap64; omega]
    exact may_loop l hl d (i + 1) _ (by omega) (by rw [List.length_set]; exact hs)
theorem may_ev (l : List Int) : Ev (fun k => peristyleref26_May.f k l) (isOrd l) := by
  unfold peristyleref26_May.f
  by_cases h : (l.length : Int) > 4096
  · refine Ev.yes h (Ev.val ?_)
    unfold isOrd
    rw [decide_eq_false (by omega), Bool.false_and]
  refine Ev.no h (Ev.yes (by omega) (Ev.yes (by omega) ?_))
  have := may_loop l (by omega) l.length 0 (List.replicate l.length false) (by omega) (by simp)
  rw [Int.toNat_natCast]
  have e : isOrd l = okL (l.length : Int) l (List.replicate l.length false) := by
    unfold isOrd
    rw [decide_eq_true (show l.length ≤ 4096 by omega), Bool.true_and]
  rw [e]
  exact this
theorem turned_loop (l : List Int) (hl : l.length ≤ 4096) (hr : ∀ i : Nat, i < l.length → 0 ≤ rd l (i : Int) ∧ rd l (i : Int) < (l.length : Int)) : ∀ (d i : Nat) (out : List Int), i + d = l.length → out.length = l.length →
    Ev (fun k => jindex_turned.l0 k out l (l.length : Int) (i : Int)) (turnL (l.drop i) i out)
  | 0, i, out, h, ho => by
    refine Ev.step (fun k => jindex_turned.l0_succ k _ _ _ _) (Ev.no (by omega) (Ev.val ?_))
    rw [List.drop_of_length_le (by omega)]
    rfl
  | d + 1, i, out, h, ho => by
    have h1 := hr i (by omega)
    refine Ev.step (fun k => jindex_turned.l0_succ k _ _ _ _) (Ev.yes (by omega) (Ev.yes (by omega) (Ev.yes (by omega) (Ev.yes h1.1 (Ev.yes (by omega) ?_)))))
    rw [drop_rd l i (by omega), show wrap64 ((i : Int) + 1) = ((i + 1 : Nat) : Int) by unfold wrap64; omega]
    exact turned_loop l hl hr d (i + 1) _ (by omega) (by rw [List.length_set]; exact ho)
theorem turned_ev (l : List Int) (hl : l.length ≤ 4096) (h : Ord l.length l) : Ev (fun k => jindex_turned.f k l) (turnR l) := by
  unfold jindex_turned.f
  refine Ev.yes (by omega) (Ev.yes (by omega) ?_)
  rw [Int.toNat_natCast]
  exact turned_loop l hl h.2.1 l.length 0 _ (by omega) (by simp)
theorem refTurned_loop (l : List Int) (hl : l.length ≤ 4096) (hr : ∀ i : Nat, i < l.length → 0 ≤ rd l (i : Int) ∧ rd l (i : Int) < (l.length : Int)) : ∀ (d i : Nat) (out : List Int), i + d = l.length → out.length = l.length →
    Ev (fun k => peristyleref26_Turned.l0 k l out (i : Int)) (turnL (l.drop i) i out)
  | 0, i, out, h, ho => by
    refine Ev.step (fun k => peristyleref26_Turned.l0_succ k _ _ _) (Ev.no (by omega) (Ev.val ?_))
    rw [List.drop_of_length_le (by omega)]
    rfl
  | d + 1, i, out, h, ho => by
    have h1 := hr i (by omega)
    refine Ev.step (fun k => peristyleref26_Turned.l0_succ k _ _ _) (Ev.yes (by omega) (Ev.yes (by omega) (Ev.yes h1.1 (Ev.yes (by omega) ?_))))
    rw [drop_rd l i (by omega), show wrap64 ((i : Int) + 1) = ((i + 1 : Nat) : Int) by unfold wrap64; omega]
    exact refTurned_loop l hl hr d (i + 1) _ (by omega) (by rw [List.length_set]; exact ho)
theorem refTurned_ev (l : List Int) (hl : l.length ≤ 4096) (h : Ord l.length l) : Ev (fun k => peristyleref26_Turned.f k l) (turnR l) := by
  unfold peristyleref26_Turned.f
  refine Ev.yes (by omega) (Ev.yes (by omega) ?_)
  rw [Int.toNat_natCast]
  exact refTurned_loop l hl h.2.1 l.length 0 _ (by omega) (by simp)
def TurnedR (l : List Int) : List Int × Int := if isOrd l = true then (turnR l, 0) else ([], 1)
theorem Turned_ev (l : List Int) : Ev (fun k => jindex_Turned.f k l) (TurnedR l) := by
  unfold jindex_Turned.f TurnedR
  refine Ev.bind (check_ev l) ?_
  by_cases h : isOrd l = true
  · obtain ⟨h4, ho⟩ := isOrd_ord h
    rw [if_pos h, if_pos h]
    exact Ev.yes rfl (Ev.bind (turned_ev l h4 ho) (Ev.now _))
  · rw [if_neg h, if_neg h]
    exact Ev.no (by decide) (Ev.now _)
theorem between_loop (a t : List Int) (n : Nat) (ha : a.length = n) (hn : n ≤ 4096) (ht : t.length = n) (hr : ∀ i : Nat, i < n → 0 ≤ rd a (i : Int) ∧ rd a (i : Int) < (n : Int)) : ∀ (d i : Nat), i + d = n →
    Ev (fun k => jindex_Between.l0 k a t ((via a t).take i ++ List.replicate (n - i) 0) (n : Int) (i : Int)) (via a t, 0)
  | 0, i, h => by
    refine Ev.step (fun k => jindex_Between.l0_succ k _ _ _ _ _) (Ev.no (by omega) (Ev.val ?_))
    rw [List.take_of_length_le (by rw [via_length]; omega), show n - i = 0 by omega]
    simp
  | d + 1, i, h => by
    have h1 := hr i (by omega)
    have hlen : ((via a t).take i ++ List.replicate (n - i) 0).length = n := by simp [via_length]; omega
    refine Ev.step (fun k => jindex_Between.l0_succ k _ _ _ _ _) (Ev.yes (by omega) (Ev.yes (by omega) (Ev.yes (by omega) (Ev.yes h1.1 (Ev.yes (by omega) (Ev.yes (by rw [hlen]; omega) ?_))))))
    have e : ((via a t).take i ++ List.replicate (n - i) 0).set (i : Int).toNat (rd t (rd a (i : Int))) = (via a t).take (i + 1) ++ List.replicate (n - (i + 1)) 0 := by
      obtain ⟨m, hm⟩ : ∃ m, n - i = m + 1 := ⟨n - i - 1, by omega⟩
      have hti : ((via a t).take i).length = i := by rw [List.length_take, via_length]; omega
      rw [hm, show n - (i + 1) = m by omega, Int.toNat_natCast, List.set_append_right _ _ (by omega), hti, Nat.sub_self, List.replicate_succ, List.set_cons_zero, List.take_add_one, List.getElem?_eq_getElem (by rw [via_length]; omega), ← rd_get _ i (by rw [via_length]; omega), via_rd a t i (by omega)]
      simp
    rw [e, show wrap64 ((i : Int) + 1) = ((i + 1 : Nat) : Int) by unfold wrap64; omega]
    exact between_loop a t n ha hn ht hr d (i + 1) (by omega)
def BetweenR (a b : List Int) : List Int × Int := if isOrd a = true ∧ isOrd b = true ∧ a.length = b.length then (via a (turnR b), 0) else ([], 1)
theorem Between_ev (a b : List Int) : Ev (fun k => jindex_Between.f k a b) (BetweenR a b) := by
  have hno : ¬ (isOrd a = true ∧ isOrd b = true ∧ a.length = b.length) → Ev (fun k => jindex_Between.j0 k a b true) (BetweenR a b) := fun h => by
    unfold BetweenR
    rw [if_neg h]
    exact Ev.step (fun k => jindex_Between.j0_succ k _ _ _) (Ev.yes rfl (Ev.now _))
  unfold jindex_Between.f
  refine Ev.bind (check_ev a) ?_
  by_cases h1 : isOrd a = true
  · rw [if_pos h1]
    refine Ev.yes rfl (Ev.bind (check_ev b) ?_)
    by_cases h2 : isOrd b = true
    · rw [if_pos h2]
      refine Ev.yes rfl ?_
      by_cases h3 : a.length = b.length
      · rw [show ((a.length : Int) != (b.length : Int)) = false by simp [h3]]
        obtain ⟨a4, ao⟩ := isOrd_ord h1
        obtain ⟨b4, bo⟩ := isOrd_ord h2
        unfold BetweenR
        rw [if_pos ⟨h1, h2, h3⟩]
        refine Ev.step (fun k => jindex_Between.j0_succ k _ _ _) (Ev.no (by decide) (Ev.bind (turned_ev b b4 bo) (Ev.yes (by omega) (Ev.yes (by omega) ?_))))
        rw [Int.toNat_natCast]
        have := between_loop a (turnR b) a.length rfl a4 (by rw [(turnR_back bo).1, h3]) ao.2.1 a.length 0 (by omega)
        simpa using this
      · rw [show ((a.length : Int) != (b.length : Int)) = true by rw [bne_iff_ne]; omega]
        exact hno (fun h => h3 h.2.2)
    · rw [if_neg h2]
      exact Ev.no (by decide) (hno (fun h => h2 h.2.1))
  · rw [if_neg h1]
    exact Ev.no (by decide) (hno (fun h => h1 h.1))
theorem refBetween_loop (a t : List Int) (n : Nat) (ha : a.length = n) (hn : n ≤ 4096) (ht : t.length = n) (hr : ∀ i : Nat, i < n → 0 ≤ rd a (i : Int) ∧ rd a (i : Int) < (n : Int)) : ∀ (d i : Nat), i + d = n →
    Ev (fun k => peristyleref26_Between.l0 k a t ((via a t).take i) (i : Int)) (via a t)
  | 0, i, h => by
    refine Ev.step (fun k => peristyleref26_Between.l0_succ k _ _ _ _) (Ev.no (by omega) (Ev.val ?_))
    rw [List.take_of_length_le (by rw [via_length]; omega)]
  | d + 1, i, h => by
    have h1 := hr i (by omega)
    have hlen : ((via a t).take i).length ≤ n := by rw [List.length_take, via_length]; omega
    refine Ev.step (fun k => peristyleref26_Between.l0_succ k _ _ _ _) (Ev.yes (by omega) (Ev.yes (by omega) (Ev.yes h1.1 (Ev.yes (by omega) (Ev.yes (by omega) ?_)))))
    have e : (via a t).take i ++ [rd t (rd a (i : Int))] = (via a t).take (i + 1) := by
      rw [List.take_add_one, List.getElem?_eq_getElem (by rw [via_length]; omega), ← rd_get _ i (by rw [via_length]; omega), via_rd a t i (by omega)]
      rfl
    rw [e, show wrap64 ((i : Int) + 1) = ((i + 1 : Nat) : Int) by unfold wrap64; omega]
    exact refBetween_loop a t n ha hn ht hr d (i + 1) (by omega)
theorem refBetween_ev (a b : List Int) (a4 : a.length ≤ 4096) (ao : Ord a.length a) (bo : Ord b.length b) (h : a.length = b.length) : Ev (fun k => peristyleref26_Between.f k a b) (via a (turnR b)) := by
  unfold peristyleref26_Between.f
  refine Ev.bind (refTurned_ev b (by omega) bo) ?_
  have := refBetween_loop a (turnR b) a.length rfl a4 (by rw [(turnR_back bo).1, h]) ao.2.1 a.length 0 (by omega)
  simpa using this
end Go.Proofs.Ytbmlfbbcgbgnoaa.Print
