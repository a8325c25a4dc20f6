-- Masks of nulls: what the program's functions and the document's tell.
import Derived.Test.YtkbblkfbgpohkaaPrint0
import Derived.Test.YtkbblkfbgpohkaaPrint2
import Derived.Test.YtkbblkfbgpohkaaPrint3
import Derived.Test.YtkbblkfbgpohkaaPrint4
import Derived.Test.YtkbblkfbgpohkaaPrint5
import Derived.Test.YtkbblkfbgpohkaaPrint6
import Derived.Test.YtkbblkfbgpohkaaST
set_option linter.unusedVariables false
set_option linter.unusedSimpArgs false
namespace Go.Proofs.Ytkbblkfbgpohkaa.Print
open Go.RowKit Go.Proofs.YtkbblkfbgpohkaaW.PrintWords Go.Proofs.YtkbblkfbgpohkaaW.PrintLast Go.Proofs.YtkbblkfbgpohkaaW.PrintMore
def keepL (l : List S32) : List S32 := l.filter (fun x => !(x.f0 == 0))
/-- which cells are nulls, as numbers -/
def nb (l : List S32) : List Int := l.map (fun x => if x.f0 = 0 then 1 else 0)
theorem nb_length (l : List S32) : (nb l).length = l.length := by simp [nb]
theorem nb_01 (l : List S32) : ∀ x, x ∈ nb l → x = 0 ∨ x = 1 := by
  intro x hx
  obtain ⟨y, _, rfl⟩ := List.mem_map.1 hx
  by_cases h : y.f0 = 0
  · exact .inr (by rw [if_pos h])
  · exact .inl (by rw [if_neg h])
theorem rdT_get (l : List S32) (i : Nat) (h : i < l.length) : rd_T32 l (i : Int) = l[i] := by simp [rd_T32, List.getD_eq_getElem?_getD, h]
theorem nb_step (l : List S32) (i : Nat) (h : i < l.length) : nb (l.take (i + 1)) = nb (l.take i) ++ [if (rd_T32 l (i : Int)).f0 = 0 then 1 else 0] := by
  rw [List.take_succ_eq_append_getElem h, rdT_get l i h]
  unfold nb
  rw [List.map_append]
  rfl
theorem keep_step (l : List S32) (i : Nat) (h : i < l.length) : keepL (l.take (i + 1)) = keepL (l.take i) ++ (if (rd_T32 l (i : Int)).f0 = 0 then [] else [rd_T32 l (i : Int)]) := by
  rw [List.take_succ_eq_append_getElem h, rdT_get l i h]
  unfold keepL
  rw [List.filter_append]
  by_cases e : l[i].f0 = 0
  · rw [if_pos e, List.filter_cons_of_neg (by simp [e])]; rfl
  · rw [if_neg e, List.filter_cons_of_pos (by simp [e])]; rfl
/-- the mask of these numbers -/
def maskS (v : List Int) : ByteArray := if 1 ∈ v then (putR v 1).1 else (⟨#[]⟩ : ByteArray)
def splitR (l : List S32) : ByteArray × List S32 := (maskS (nb l), keepL l)
theorem keep_len : ∀ l : List S32, (keepL l).length ≤ l.length ∧ ((keepL l).length = l.length ↔ ¬ 1 ∈ nb l)
  | [] => by simp [keepL, nb]
  | x :: l => by
    obtain ⟨h1, h2⟩ := keep_len l
    by_cases e : x.f0 = 0
    · have e1 : keepL (x :: l) = keepL l := by unfold keepL; rw [List.filter_cons_of_neg (by simp [e])]
      rw [e1]
      refine ⟨by simp only [List.length_cons]; omega, ?_⟩
      constructor
      · intro h; simp only [List.length_cons] at h; omega
      · intro h; exact absurd (by simp [nb, e]) h
    · have e1 : keepL (x :: l) = x :: keepL l := by unfold keepL; rw [List.filter_cons_of_pos (by simp [e])]
      rw [e1]
      have e2 : nb (x :: l) = 0 :: nb l := by simp [nb, e]
      rw [e2]
      simp only [List.length_cons, List.mem_cons]
      refine ⟨by omega, ?_⟩
      rw [show ((keepL l).length + 1 = l.length + 1) ↔ ((keepL l).length = l.length) from by omega, h2]
      simp
theorem set_next (a : List Int) (m : Nat) (v : Int) : (a ++ List.replicate (m + 1) 0).set a.length v = (a ++ [v]) ++ List.replicate m 0 := by
  rw [List.set_append_right _ _ (Nat.le_refl _), Nat.sub_self, List.replicate_succ, List.set_cons_zero, List.append_assoc]
  rfl
theorem split_loop (l a : List S32) (hl : l.length ≤ 2000000000000) : ∀ (d i : Nat), i + d = l.length →
    Ev (fun k => nulls_Split.l0 k a (nb (l.take i) ++ List.replicate d 0) l (l.length : Int) (i : Int)) ((putR (nb l) 1).1, a)
  | 0, i, h => by
    refine Ev.step (fun k => nulls_Split.l0_succ k _ _ _ _ _) (Ev.no (by omega) ?_)
    rw [List.take_of_length_le (by omega), List.replicate_zero, List.append_nil]
    exact Ev.bind (pack_Put_ev (nb l) 1 (by rw [nb_length]; omega)) (Ev.now _)
  | d + 1, i, h => by
    have hih := split_loop l a hl d (i + 1) (by omega)
    rw [nb_step l i (by omega)] at hih
    have hs := set_next (nb (l.take i)) d
    rw [nb_length, List.length_take, Nat.min_eq_left (by omega)] at hs
    refine Ev.step (fun k => nulls_Split.l0_succ k _ _ _ _ _) (Ev.yes (by omega) (Ev.yes (by omega) (Ev.yes (by omega) (Ev.call (v := ((rd_T32 l (i : Int)).f0 == 0)) rfl ?_))))
    rw [show wrap64 ((i : Int) + 1) = ((i + 1 : Nat) : Int) by unfold wrap64; omega]
    by_cases e : (rd_T32 l (i : Int)).f0 = 0
    · rw [if_pos e] at hih
      refine Ev.yes (by simp [e]) (Ev.yes (by rw [List.length_append, nb_length, List.length_take, List.length_replicate]; omega) ?_)
      rw [Int.toNat_natCast, hs]
      exact hih
    · rw [if_neg e] at hih
      refine Ev.no (by simp [e]) ?_
      rw [List.replicate_succ]
      rw [List.append_assoc] at hih
      exact hih
theorem nulls_Split_ev (l : List S32) (hl : l.length ≤ 2000000000000) : Ev (fun k => nulls_Split.f k l) (splitR l) := by
  unfold nulls_Split.f
  have hk := keep_len l
  refine Ev.call (v := l) (by unfold api_Cell_17.f; rw [if_pos hl]) (Ev.call (v := keepL l) (by unfold api_Cell_16_fn18.f; rw [if_pos hl]; rfl) ?_)
  unfold splitR maskS
  by_cases h : (keepL l).length = l.length
  · refine Ev.yes (by omega) (Ev.val ?_)
    rw [if_neg (hk.2.1 h)]
  · refine Ev.no (by omega) (Ev.yes (by omega) (Ev.yes (by omega) ?_))
    rw [if_pos (Classical.byContradiction fun h2 => h (hk.2.2 h2)), Int.toNat_natCast]
    exact split_loop l _ hl l.length 0 (by omega)
/-! ### masks read -/
noncomputable def bitsR (s : ByteArray) (n : Int) : List Int × Int :=
  if n < 0 ∨ 65536 < n then ([], 1) else if s.toList = ([] : List UInt8) then (List.replicate n.toNat 0, 0)
  else if (takeR s n 1).2 = 0 ∧ 1 ∈ (takeR s n 1).1 then ((takeR s n 1).1, 0) else ([], 20)
theorem listS_01 (s : ByteArray) (n : Nat) : ∀ x, x ∈ listS s n 1 → x = 0 ∨ x = 1 := by
  intro x hx
  obtain ⟨k, _, rfl⟩ := List.mem_map.1 hx
  have := wordP_small (fun t => decide (t < 1) && sbit s (k * 1 + t)) 1 (by omega) (fun i hi => by
    have : ¬ i < 1 := by omega
    simp [this])
  unfold wordS
  omega
theorem takeR_or (s : ByteArray) (n : Int) : ((takeR s n 1).2 = 0 ∧ 0 ≤ n ∧ n ≤ 65536 ∧ (takeR s n 1).1 = listS s n.toNat 1) ∨ ((takeR s n 1).2 ≠ 0 ∧ (takeR s n 1).1 = []) := by
  unfold takeR
  split
  · exact .inr ⟨by simp, rfl⟩
  · split
    · exact .inl ⟨rfl, by omega, by omega, rfl⟩
    · exact .inr ⟨by simp, rfl⟩
theorem takeR_01 (s : ByteArray) (n : Int) : ∀ x, x ∈ (takeR s n 1).1 → x = 0 ∨ x = 1 := by
  rcases takeR_or s n with h | h
  · rw [h.2.2.2]; exact listS_01 s _
  · rw [h.2]; intro x hx; simp at hx
theorem takeR_len (s : ByteArray) (n : Int) : (takeR s n 1).1.length ≤ 65536 := by
  rcases takeR_or s n with h | h
  · rw [h.2.2.2, listS_length]; omega
  · rw [h.2]; simp
theorem bitsR_01 (s : ByteArray) (n : Int) : (∀ x, x ∈ (bitsR s n).1 → x = 0 ∨ x = 1) ∧ (bitsR s n).1.length ≤ 65536 ∧ ((bitsR s n).2 = 0 → (bitsR s n).1.length = n.toNat ∧ 0 ≤ n ∧ n ≤ 65536) ∧ ((bitsR s n).2 ≠ 0 → (bitsR s n).1 = []) := by
  unfold bitsR
  split
  · exact ⟨fun x hx => by simp at hx, by simp, fun h => absurd h (by simp), fun _ => rfl⟩
  · split
    · exact ⟨fun x hx => .inl (List.eq_of_mem_replicate hx), by rw [List.length_replicate]; omega, fun _ => ⟨by rw [List.length_replicate], by omega, by omega⟩, fun h => absurd rfl h⟩
    · split
      · rename_i h
        refine ⟨takeR_01 s n, takeR_len s n, fun _ => ⟨?_, by omega, by omega⟩, fun h => absurd rfl h⟩
        rcases takeR_or s n with h2 | h2
        · rw [h2.2.2.2, listS_length]
        · exact absurd h.1 h2.1
      · exact ⟨fun x hx => by simp at hx, by simp, fun h => absurd h (by simp), fun _ => rfl⟩
def sumL (l : List Int) : Int := l.foldr (· + ·) 0
theorem sumL_01 : ∀ l : List Int, (∀ x, x ∈ l → x = 0 ∨ x = 1) → 0 ≤ sumL l ∧ sumL l ≤ l.length
  | [], _ => by simp [sumL]
  | x :: l, h => by
    have := sumL_01 l (fun y hy => h y (List.mem_cons_of_mem _ hy))
    have hx := h x List.mem_cons_self
    have e : sumL (x :: l) = x + sumL l := rfl
    rw [e]
    simp only [List.length_cons]
    omega
theorem index_loop (l : List Int) (v : Int) (hl : l.length ≤ 17592186044416) : ∀ (d i : Nat), i + d = l.length → ∃ r : Int, Ev (fun k => slices_Index_int_int.l0 k l v (l.length : Int) (i : Int)) r ∧ (0 ≤ r ↔ v ∈ l.drop i)
  | 0, i, h => by
    refine ⟨-1, Ev.step (fun k => slices_Index_int_int.l0_succ k _ _ _ _) (Ev.no (by omega) (Ev.now _)), ?_⟩
    rw [List.drop_of_length_le (by omega)]
    simp
  | d + 1, i, h => by
    obtain ⟨r, hr, hh⟩ := index_loop l v hl d (i + 1) (by omega)
    rw [drop_rd l i (by omega)]
    by_cases e : v = rd l (i : Int)
    · refine ⟨(i : Int), Ev.step (fun k => slices_Index_int_int.l0_succ k _ _ _ _) (Ev.yes (by omega) (Ev.yes (by omega) (Ev.yes (by omega) (Ev.yes e (Ev.now _))))), ?_⟩
      simp [e]
    · refine ⟨r, Ev.step (fun k => slices_Index_int_int.l0_succ k _ _ _ _) (Ev.yes (by omega) (Ev.yes (by omega) (Ev.yes (by omega) (Ev.no e ?_)))), ?_⟩
      · rw [show wrap64 ((i : Int) + 1) = ((i + 1 : Nat) : Int) by unfold wrap64; omega]
        exact hr
      · rw [hh, List.mem_cons]
        constructor
        · exact .inr
        · rintro (h | h)
          · exact absurd h e
          · exact h
theorem contains_ev (l : List Int) (v : Int) (hl : l.length ≤ 17592186044416) : Ev (fun k => slices_Contains_int_int.f k l v) (decide (v ∈ l)) := by
  obtain ⟨r, hr, hh⟩ := index_loop l v hl l.length 0 (by omega)
  unfold slices_Contains_int_int.f
  refine Ev.bind (a := r) hr (Ev.val ?_)
  rw [List.drop_zero] at hh
  simp only [ge_iff_le, hh]
theorem nulls_bits_ev (s : ByteArray) (n : Int) (hs : s.size ≤ 4294967296) : Ev (fun k => nulls_bits.f k s n) (bitsR s n) := by
  have e1 : (n < 0 ∨ 65536 < n) → bitsR s n = ([], 1) := fun h => by unfold bitsR; rw [if_pos h]
  have e2 : ¬ (n < 0 ∨ 65536 < n) → s.toList = ([] : List UInt8) → bitsR s n = (List.replicate n.toNat 0, 0) := fun h h2 => by unfold bitsR; rw [if_neg h, if_pos h2]
  have e3 : ¬ (n < 0 ∨ 65536 < n) → ¬ s.toList = ([] : List UInt8) → ((takeR s n 1).2 = 0 ∧ 1 ∈ (takeR s n 1).1) → bitsR s n = ((takeR s n 1).1, 0) := fun h h2 h3 => by unfold bitsR; rw [if_neg h, if_neg h2, if_pos h3]
  have e4 : ¬ (n < 0 ∨ 65536 < n) → ¬ s.toList = ([] : List UInt8) → ¬ ((takeR s n 1).2 = 0 ∧ 1 ∈ (takeR s n 1).1) → bitsR s n = ([], 20) := fun h h2 h3 => by unfold bitsR; rw [if_neg h, if_neg h2, if_neg h3]
  unfold nulls_bits.f
  by_cases h1 : n < 0
  · rw [e1 (.inl h1)]
    exact Ev.yes h1 (Ev.step (fun k => nulls_bits.j0_succ k _ _ _) (Ev.yes rfl (Ev.now _)))
  refine Ev.no h1 (Ev.step (fun k => nulls_bits.j0_succ k _ _ _) ?_)
  by_cases h2 : n > 65536
  · rw [e1 (.inr h2)]
    exact Ev.yes (decide_eq_true h2) (Ev.now _)
  have hn : ¬ (n < 0 ∨ 65536 < n) := by omega
  refine Ev.no (by simpa using h2) ?_
  by_cases h3 : s.toList = ([] : List UInt8)
  · rw [e2 hn h3]
    exact Ev.yes h3 (Ev.yes (by omega) (Ev.yes (by omega) (Ev.now _)))
  refine Ev.no h3 (Ev.bind (pack_Take_ev s n 1 hs) ?_)
  by_cases h4 : (takeR s n 1).2 = 0
  · refine Ev.yes h4 (Ev.bind (contains_ev _ 1 (by have := takeR_len s n; omega)) ?_)
    by_cases h5 : 1 ∈ (takeR s n 1).1
    · rw [e3 hn h3 ⟨h4, h5⟩]
      exact Ev.yes (decide_eq_true h5) (Ev.now _)
    · rw [e4 hn h3 (fun h => h5 h.2)]
      exact Ev.no (by simpa using h5) (Ev.now _)
  · rw [e4 hn h3 (fun h => h4 h.1)]
    exact Ev.no h4 (Ev.now _)
noncomputable def countR (s : ByteArray) (n : Int) : Int × Int := (sumL (bitsR s n).1, (bitsR s n).2)
theorem count_loop (l : List Int) (e : Int) (h01 : ∀ x, x ∈ l → x = 0 ∨ x = 1) (hl : l.length ≤ 65536) : ∀ (d i : Nat) (acc : Int), i + d = l.length → 0 ≤ acc → acc ≤ i →
    Ev (fun k => nulls_Count.l0 k e acc l (l.length : Int) (i : Int)) (acc + sumL (l.drop i), e)
  | 0, i, acc, h, h0, h1 => by
    refine Ev.step (fun k => nulls_Count.l0_succ k _ _ _ _ _) (Ev.no (by omega) (Ev.val ?_))
    rw [List.drop_of_length_le (by omega)]
    simp [sumL]
  | d + 1, i, acc, h, h0, h1 => by
    have hx := h01 _ (rd_mem l i (by omega))
    have hih := count_loop l e h01 hl d (i + 1) (acc + rd l (i : Int)) (by omega) (by omega) (by omega)
    refine Ev.step (fun k => nulls_Count.l0_succ k _ _ _ _ _) (Ev.yes (by omega) (Ev.yes (by omega) (Ev.yes (by omega) ?_)))
    rw [show wrap64 ((i : Int) + 1) = ((i + 1 : Nat) : Int) by unfold wrap64; omega, show wrap64 (acc + rd l (i : Int)) = acc + rd l (i : Int) by unfold wrap64; omega, drop_rd l i (by omega)]
    have e2 : sumL (rd l (i : Int) :: l.drop (i + 1)) = rd l (i : Int) + sumL (l.drop (i + 1)) := rfl
    rw [e2, ← Int.add_assoc]
    exact hih
theorem nulls_Count_ev (s : ByteArray) (n : Int) (hs : s.size ≤ 4294967296) : Ev (fun k => nulls_Count.f k s n) (countR s n) := by
  have hb := bitsR_01 s n
  unfold nulls_Count.f
  refine Ev.bind (nulls_bits_ev s n hs) ?_
  have := count_loop (bitsR s n).1 (bitsR s n).2 hb.1 hb.2.1 (bitsR s n).1.length 0 0 (by omega) (by omega) (by omega)
  rw [List.drop_zero, Int.zero_add] at this
  exact this
/-! ### cells joined -/
def mergeL : List Int → List S32 → List S32
  | [], _ => []
  | b :: bs, [] => z32 :: mergeL bs []
  | b :: bs, x :: xs => if b = 0 then x :: mergeL bs xs else z32 :: mergeL bs (x :: xs)
def anyNull (l : List S32) : Bool := l.any (fun x => x.f0 == 0)
noncomputable def joinR (s : ByteArray) (n : Int) (l : List S32) : List S32 × Int :=
  if (bitsR s n).2 = 0 then if (l.length : Int) = n - sumL (bitsR s n).1 ∧ anyNull l = false then (mergeL (bitsR s n).1 l, 0) else ([], 20) else ([], (bitsR s n).2)
theorem mergeL_nil (b : List Int) : mergeL b [] = List.replicate b.length z32 := by
  induction b with
  | nil => rfl
  | cons x b ih => simp [mergeL, ih, List.replicate_succ]
theorem anyNull_drop (l : List S32) (i : Nat) (h : i < l.length) : anyNull (l.drop i) = ((rd_T32 l (i : Int)).f0 == 0 || anyNull (l.drop (i + 1))) := by
  unfold anyNull
  rw [List.drop_eq_getElem_cons h, rdT_get l i h, List.any_cons]
theorem null_loop (l : List S32) (hl : l.length ≤ 4398046511104) : ∀ (d i : Nat), i + d = l.length → ∃ r : Int, Ev (fun k => api_Cell_25_fn19.l0 k l (l.length : Int) (i : Int)) r ∧ decide (0 ≤ r) = anyNull (l.drop i)
  | 0, i, h => by
    refine ⟨-1, Ev.step (fun k => api_Cell_25_fn19.l0_succ k _ _ _) (Ev.no (by omega) (Ev.now _)), ?_⟩
    rw [List.drop_of_length_le (by omega)]
    rfl
  | d + 1, i, h => by
    obtain ⟨r, hr, hh⟩ := null_loop l hl d (i + 1) (by omega)
    rw [anyNull_drop l i (by omega)]
    by_cases e : (rd_T32 l (i : Int)).f0 = 0
    · refine ⟨(i : Int), Ev.step (fun k => api_Cell_25_fn19.l0_succ k _ _ _) (Ev.yes (by omega) (Ev.yes (by omega) (Ev.yes (by omega) (Ev.call (v := ((rd_T32 l (i : Int)).f0 == 0)) rfl (Ev.yes (by simp [e]) (Ev.now _)))))), ?_⟩
      simp [e]
    · refine ⟨r, Ev.step (fun k => api_Cell_25_fn19.l0_succ k _ _ _) (Ev.yes (by omega) (Ev.yes (by omega) (Ev.yes (by omega) (Ev.call (v := ((rd_T32 l (i : Int)).f0 == 0)) rfl (Ev.no (by simp [e]) ?_))))), ?_⟩
      · rw [show wrap64 ((i : Int) + 1) = ((i + 1 : Nat) : Int) by unfold wrap64; omega]
        exact hr
      · rw [hh]
        simp [e]
theorem null_ev (l : List S32) (hl : l.length ≤ 4398046511104) : Ev (fun k => api_Cell_23_fn19.f k l) (anyNull l) := by
  obtain ⟨r, hr, hh⟩ := null_loop l hl l.length 0 (by omega)
  unfold api_Cell_23_fn19.f
  refine Ev.bind (a := r) hr (Ev.val ?_)
  rw [List.drop_zero] at hh
  exact hh
/-- as many cells as there are places -/
def fits (b : List Int) (l : List S32) : Prop := (l.length : Int) = (b.length : Int) - sumL b
theorem fits_cons {b : List Int} {l : List S32} {x : Int} (hx : x = 0 ∨ x = 1) (h01 : ∀ y, y ∈ b → y = 0 ∨ y = 1) (h : fits (x :: b) l) : (x = 0 → ∃ c m, l = c :: m ∧ fits b m) ∧ (x ≠ 0 → fits b l) := by
  unfold fits at h
  have e : sumL (x :: b) = x + sumL b := rfl
  have hs := sumL_01 b h01
  rw [e, List.length_cons] at h
  refine ⟨fun h0 => ?_, fun h0 => ?_⟩
  · rcases l with _ | ⟨c, m⟩
    · simp only [List.length_nil] at h; omega
    · refine ⟨c, m, rfl, ?_⟩
      unfold fits
      simp only [List.length_cons] at h
      omega
  · unfold fits; omega
theorem mergeL_zero (b : List Int) (c : S32) (m : List S32) : mergeL (0 :: b) (c :: m) = c :: mergeL b m := by simp [mergeL]
theorem mergeL_one {x : Int} (hx : x ≠ 0) (b : List Int) (l : List S32) : mergeL (x :: b) l = z32 :: mergeL b l := by
  cases l <;> simp [mergeL, hx]
theorem set_nextT (a : List S32) (m : Nat) (v : S32) : (a ++ List.replicate (m + 1) z32).set a.length v = (a ++ [v]) ++ List.replicate m z32 := by
  rw [List.set_append_right _ _ (Nat.le_refl _), Nat.sub_self, List.replicate_succ, List.set_cons_zero, List.append_assoc]
  rfl
theorem join_loop (b : List Int) (h01 : ∀ x, x ∈ b → x = 0 ∨ x = 1) (hl : b.length ≤ 65536) : ∀ (d i : Nat) (m done : List S32), i + d = b.length → done.length = i → fits (b.drop i) m →
    Ev (fun k => nulls_Join.l0 k m b (done ++ List.replicate d z32) (b.length : Int) (i : Int)) (done ++ mergeL (b.drop i) m, 0)
  | 0, i, m, done, h, hd, hf => by
    refine Ev.step (fun k => nulls_Join.l0_succ k _ _ _ _ _) (Ev.no (by omega) (Ev.val ?_))
    rw [List.drop_of_length_le (by omega)]
    simp [mergeL]
  | d + 1, i, m, done, h, hd, hf => by
    rw [drop_rd b i (by omega)] at hf ⊢
    have hx := h01 _ (rd_mem b i (by omega))
    have hfc := fits_cons hx (fun y hy => h01 y (List.mem_of_mem_drop hy)) hf
    have hw : wrap64 ((i : Int) + 1) = ((i + 1 : Nat) : Int) := by unfold wrap64; omega
    refine Ev.step (fun k => nulls_Join.l0_succ k _ _ _ _ _) (Ev.yes (by omega) (Ev.yes (by omega) (Ev.yes (by omega) ?_)))
    rw [hw]
    by_cases e : rd b (i : Int) = 0
    · obtain ⟨c, m', rfl, hf'⟩ := hfc.1 e
      have hih := join_loop b h01 hl d (i + 1) m' (done ++ [c]) (by omega) (by simp [hd]) hf'
      refine Ev.yes e (Ev.yes (by simp only [List.length_cons]; omega) (Ev.yes (by simp only [List.length_cons]; omega) (Ev.yes (by simp only [List.length_append, List.length_replicate]; omega) ?_)))
      have hs := set_nextT done d c
      rw [hd] at hs
      have hc : (⟨(rd_T32 (c :: m') 0).f0, (rd_T32 (c :: m') 0).f1, (rd_T32 (c :: m') 0).f2⟩ : S32) = c := rfl
      rw [hc, Int.toNat_natCast, hs, e, mergeL_zero, show done ++ c :: mergeL (b.drop (i + 1)) m' = done ++ [c] ++ mergeL (b.drop (i + 1)) m' by simp]
      exact hih
    · have hih := join_loop b h01 hl d (i + 1) m (done ++ [z32]) (by omega) (by simp [hd]) (hfc.2 e)
      refine Ev.no e ?_
      rw [mergeL_one e, show done ++ z32 :: mergeL (b.drop (i + 1)) m = done ++ [z32] ++ mergeL (b.drop (i + 1)) m by simp, show done ++ List.replicate (d + 1) z32 = done ++ [z32] ++ List.replicate d z32 by simp [List.replicate_succ]]
      exact hih
theorem nulls_Join_ev (s : ByteArray) (n : Int) (l : List S32) (hs : s.size ≤ 4294967296) (hll : l.length ≤ 4398046511104) : Ev (fun k => nulls_Join.f k s n l) (joinR s n l) := by
  have hb := bitsR_01 s n
  unfold nulls_Join.f joinR
  refine Ev.bind (nulls_bits_ev s n hs) ?_
  by_cases h0 : (bitsR s n).2 = 0
  · rw [if_pos h0]
    have hlen := hb.2.2.1 h0
    have hsum := sumL_01 _ hb.1
    refine Ev.yes h0 (Ev.bind (nulls_Count_ev s n hs) ?_)
    unfold countR
    rw [show wrap64 (n - sumL (bitsR s n).1) = n - sumL (bitsR s n).1 by unfold wrap64; omega]
    by_cases h1 : (l.length : Int) = n - sumL (bitsR s n).1
    · refine Ev.yes h1 (Ev.bind (null_ev l hll) (Ev.step (fun k => nulls_Join.j0_succ k _ _ _ _) ?_))
      cases h2 : anyNull l
      · rw [if_pos ⟨h1, rfl⟩]
        refine Ev.no (by decide) (Ev.yes (by omega) (Ev.yes (by omega) (Ev.call (v := (List.replicate n.toNat z32 : List S32)) rfl ?_)))
        have := join_loop (bitsR s n).1 hb.1 hb.2.1 (bitsR s n).1.length 0 l [] (by omega) rfl (by unfold fits; rw [List.drop_zero, hlen.1, h1]; omega)
        rw [List.drop_zero, List.nil_append, List.nil_append, hlen.1] at this
        rw [List.length_replicate]
        exact this
      · rw [if_neg (fun h => by cases h.2)]
        exact Ev.yes rfl (Ev.now _)
    · rw [if_neg (fun h => h1 h.1)]
      exact Ev.no h1 (Ev.step (fun k => nulls_Join.j0_succ k _ _ _ _) (Ev.yes rfl (Ev.now _)))
  · rw [if_neg h0]
    exact Ev.no h0 (Ev.now _)
theorem S32_ext {x y : S32} (h0 : x.f0 = y.f0) (h1 : x.f1 = y.f1) (h2 : x.f2 = y.f2) : x = y := by
  cases x; cases y; simp_all
theorem same12_loop (l : List S32) (hl : l.length ≤ 4398046511104) : ∀ (d i : Nat), i + d = l.length → Ev (fun k => peristyleref12_Same.l0 k l l (i : Int)) true
  | 0, i, h => Ev.step (fun k => peristyleref12_Same.l0_succ k _ _ _) (Ev.no (by omega) (Ev.now _))
  | d + 1, i, h => by
    have hih := same12_loop l hl d (i + 1) (by omega)
    refine Ev.step (fun k => peristyleref12_Same.l0_succ k _ _ _) (Ev.yes (by omega) (Ev.yes (by omega) (Ev.yes (by omega) (Ev.no (by simp) ?_))))
    rw [show wrap64 ((i : Int) + 1) = ((i + 1 : Nat) : Int) by unfold wrap64; omega]
    exact hih
theorem ref12_Same_refl (l : List S32) (hl : l.length ≤ 4398046511104) : Ev (fun k => peristyleref12_Same.f k l l) true :=
  Ev.yes rfl (same12_loop l hl l.length 0 (by omega))
/-! ### what was split is joined -/
theorem mask_may (v : List Int) (h01 : ∀ x, x ∈ v → x = 0 ∨ x = 1) (hl : v.length ≤ 65536) : mayPut v 1 := by
  refine ⟨by omega, by omega, hl, (widL_le_iff v 1 (by omega)).2 (fun x hx i hi => ?_)⟩
  rcases h01 x hx with rfl | rfl
  · exact bit_zero i
  · by_cases h64 : i < 64
    · rw [show (1 : Int) = ((1 : Nat) : Int) from rfl, bit_nat _ i h64]
      exact Nat.testBit_lt_two_pow (Nat.lt_of_lt_of_le (by decide : 1 < 2 ^ 1) (Nat.pow_le_pow_right (by decide) (by omega)))
    · exact bit_ge _ (by omega)
theorem zeros_of (v : List Int) (h01 : ∀ x, x ∈ v → x = 0 ∨ x = 1) (h : ¬ 1 ∈ v) : v = List.replicate v.length 0 := by
  refine List.eq_replicate_iff.2 ⟨rfl, fun x hx => ?_⟩
  rcases h01 x hx with rfl | rfl
  · rfl
  · exact absurd hx h
theorem mask_toList (v : List Int) (h01 : ∀ x, x ∈ v → x = 0 ∨ x = 1) (hl : v.length ≤ 65536) : ((maskS v).toList = ([] : List UInt8)) ↔ ¬ 1 ∈ v := by
  unfold maskS
  by_cases h : 1 ∈ v
  · rw [if_pos h]
    have hm := put_size v 1 (mask_may v h01 hl)
    have hpos : 0 < v.length := List.length_pos_of_mem h
    refine ⟨fun he => ?_, fun hn => absurd h hn⟩
    have hz : (putR v 1).1 = (⟨#[]⟩ : ByteArray) := toList_inj (he.trans (by rw [Lib.toList_data]))
    have h1 : (putR v (1 : Nat)).1.size = 0 := by
      show (putR v 1).1.size = 0
      rw [hz]; rfl
    rw [hm.1] at h1
    omega
  · rw [if_neg h]
    exact ⟨fun _ => h, fun _ => by rw [Lib.toList_data]⟩
theorem bitsR_mask (v : List Int) (h01 : ∀ x, x ∈ v → x = 0 ∨ x = 1) (hl : v.length ≤ 65536) : bitsR (maskS v) (v.length : Int) = (v, 0) := by
  have ht := mask_toList v h01 hl
  unfold bitsR
  rw [if_neg (by omega)]
  by_cases h : 1 ∈ v
  · rw [if_neg (fun he => ht.1 he h)]
    have htp := take_put v 1 (mask_may v h01 hl) (fun x hx => by have := h01 x hx; unfold InI; omega)
    have hms : maskS v = (putR v ((1 : Nat) : Int)).1 := by unfold maskS; rw [if_pos h]; rfl
    rw [hms, show (1 : Int) = ((1 : Nat) : Int) from rfl, htp]
    rw [if_pos ⟨rfl, h⟩]
  · rw [if_pos (ht.2 h), Int.toNat_natCast, ← zeros_of v h01 h]
def maskedL (l : List S32) : List S32 := l.map (fun x => if x.f0 = 0 then z32 else x)
theorem merge_split : ∀ l : List S32, mergeL (nb l) (keepL l) = maskedL l
  | [] => rfl
  | x :: l => by
    have ih := merge_split l
    by_cases e : x.f0 = 0
    · have e1 : keepL (x :: l) = keepL l := by unfold keepL; rw [List.filter_cons_of_neg (by simp [e])]
      have e2 : nb (x :: l) = 1 :: nb l := by simp [nb, e]
      rw [e1, e2, mergeL_one (by decide), ih]
      simp [maskedL, e]
    · have e1 : keepL (x :: l) = x :: keepL l := by unfold keepL; rw [List.filter_cons_of_pos (by simp [e])]
      have e2 : nb (x :: l) = 0 :: nb l := by simp [nb, e]
      rw [e1, e2, mergeL_zero, ih]
      simp [maskedL, e]
theorem keep_sum : ∀ l : List S32, ((keepL l).length : Int) = (l.length : Int) - sumL (nb l)
  | [] => rfl
  | x :: l => by
    have ih := keep_sum l
    by_cases e : x.f0 = 0
    · have e1 : keepL (x :: l) = keepL l := by unfold keepL; rw [List.filter_cons_of_neg (by simp [e])]
      have e2 : nb (x :: l) = 1 :: nb l := by simp [nb, e]
      have e3 : sumL (1 :: nb l) = 1 + sumL (nb l) := rfl
      rw [e1, e2, e3, List.length_cons]
      omega
    · have e1 : keepL (x :: l) = x :: keepL l := by unfold keepL; rw [List.filter_cons_of_pos (by simp [e])]
      have e2 : nb (x :: l) = 0 :: nb l := by simp [nb, e]
      have e3 : sumL (0 :: nb l) = 0 + sumL (nb l) := rfl
      rw [e1, e2, e3, List.length_cons, List.length_cons]
      omega
theorem keep_noNull (l : List S32) : anyNull (keepL l) = false := by
  unfold anyNull keepL
  rw [List.any_eq_false]
  intro x hx
  have := (List.mem_filter.1 hx).2
  simpa using this
theorem join_split (l : List S32) (hl : l.length ≤ 65536) : joinR (splitR l).1 (l.length : Int) (splitR l).2 = (maskedL l, 0) := by
  have hb := bitsR_mask (nb l) (nb_01 l) (by rw [nb_length]; exact hl)
  rw [nb_length] at hb
  unfold joinR splitR
  rw [hb, if_pos rfl, if_pos ⟨keep_sum l, keep_noNull l⟩, merge_split]
theorem split_size (l : List S32) (hl : l.length ≤ 65536) : (splitR l).1.size ≤ 4294967296 := by
  show (maskS (nb l)).size ≤ _
  unfold maskS
  split
  · have hm := (put_size (nb l) 1 (mask_may _ (nb_01 l) (by rw [nb_length]; exact hl))).1
    rw [nb_length] at hm
    show (putR (nb l) ((1 : Nat) : Int)).1.size ≤ _
    rw [hm]
    omega
  · exact Nat.zero_le _
theorem awake12_ev : Ev (fun k => peristylelaw12_awake.f k) true := by
  unfold peristylelaw12_awake.f
  refine Ev.call rfl (Ev.call rfl ?_)
  refine Ev.bind (a := ((⟨#[2]⟩ : ByteArray), [(⟨1, 5, (⟨#[]⟩ : ByteArray)⟩ : S32), ⟨1, 6, (⟨#[]⟩ : ByteArray)⟩])) (Ev.of (k := 60) (fun k => nulls_Split.mono _ k) (by kernel_rfl)) ?_
  refine Ev.bind (a := ([(⟨1, 5, (⟨#[]⟩ : ByteArray)⟩ : S32), ⟨0, 0, (⟨#[]⟩ : ByteArray)⟩, ⟨1, 6, (⟨#[]⟩ : ByteArray)⟩], 0)) (Ev.of (k := 60) (fun k => nulls_Join.mono _ _ _ k) (by kernel_rfl)) ?_
  refine Ev.bind (a := (1, 0)) (Ev.of (k := 60) (fun k => nulls_Count.mono _ _ k) (by kernel_rfl)) ?_
  refine Ev.yes (by rw [Lib.toList_data]) (Ev.call rfl (Ev.call rfl (Ev.bind (ref12_Same_refl _ (by simp)) (Ev.yes rfl (Ev.call rfl (Ev.call rfl (Ev.bind (ref12_Same_refl _ (by simp)) (Ev.yes rfl (Ev.yes rfl (Ev.yes rfl (Ev.now _)))))))))))
end Go.Proofs.Ytkbblkfbgpohkaa.Print
