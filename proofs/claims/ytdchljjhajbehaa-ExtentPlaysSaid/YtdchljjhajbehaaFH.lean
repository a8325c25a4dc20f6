/- What Alloc, Take and Free do to the free blocks, and what the document's functions tell. -/
import Derived.Test.YtdchljjhajbehaaEX
namespace Go.Proofs.Ytdchljjhajbehaa.Ex
open Go.RowKit Go.Proofs.Ytdchljjhajbehaa.Print Go.Proofs.YtdchljjhajbehaaW.PrintWords Go.Proofs.YtdchljjhajbehaaW.PrintLast Go.Proofs.YtdchljjhajbehaaW.PrintMore Go.Proofs.Ytdchljjhajbehaa.Holes
set_option linter.unusedVariables false
set_option linter.unusedSimpArgs false
theorem find_or (p : Ext → Bool) (hs : List Ext) : (hs.findIdx? p = none ∧ ∀ h, h ∈ hs → p h = false) ∨ ∃ k : Nat, ∃ hk : k < hs.length, hs.findIdx? p = some k ∧ p hs[k] = true ∧ ∀ j (hj : j < hs.length), j < k → p hs[j] = false := by
  cases h : hs.findIdx? p with
  | none => exact .inl ⟨rfl, fun x hx => List.findIdx?_eq_none_iff.1 h x hx⟩
  | some k =>
    obtain ⟨hk, h1, h2⟩ := List.findIdx?_eq_some_iff_getElem.1 h
    exact .inr ⟨k, hk, rfl, h1, fun j hj hjk => by simpa using h2 j hjk⟩
theorem takeS_no {n : Int} {hs : List Ext} {e : Ext} (h : ¬ May n e) : takeS n hs e = (1, hs) := by unfold takeS; rw [if_neg h]
theorem freeS_no {n : Int} {hs : List Ext} {e : Ext} (h : ¬ May n e) : freeS n hs e = (1, hs) := by unfold freeS; rw [if_neg h]
theorem takeS_ok {n : Int} {hs : List Ext} {e : Ext} {F : Int → Prop} (q : Is hs F n) (h : May n e) (hF : ∀ x, Cov e x → F x) : ∃ hs', takeS n hs e = (0, hs') ∧ Is hs' (fun i => F i ∧ ¬ Cov e i) n := by
  unfold takeS
  rw [if_pos h]
  rcases find_or (holdsP e) hs with ⟨hi, hn⟩ | ⟨k, hk, hi, hp, _⟩
  · exact absurd hF (q.take_none h.1 fun x hx hc => by have := hn x hx; unfold holdsP at this; exact of_decide_eq_false this hc)
  · rw [hi]
    dsimp only
    rw [hAt_eq hk]
    have := of_decide_eq_true hp
    exact ⟨_, rfl, q.cut_at hk h.1 this.1 this.2⟩
theorem takeS_none {n : Int} {hs : List Ext} {e : Ext} {F : Int → Prop} (q : Is hs F n) (h : May n e) (hF : ¬ ∀ x, Cov e x → F x) : takeS n hs e = (3, hs) := by
  unfold takeS
  rw [if_pos h]
  rcases find_or (holdsP e) hs with ⟨hi, hn⟩ | ⟨k, hk, hi, hp, _⟩
  · rw [hi]
  · exact absurd (q.take_some hk (of_decide_eq_true hp)) hF
theorem freeS_none {n : Int} {hs : List Ext} {e : Ext} {F : Int → Prop} (q : Is hs F n) (h : May n e) (hF : ∃ x, Cov e x ∧ F x) : freeS n hs e = (3, hs) := by
  unfold freeS
  rw [if_pos h]
  rcases find_or (overP e) hs with ⟨hi, hn⟩ | ⟨k, hk, hi, hp, _⟩
  · obtain ⟨x, hx, hc⟩ := (q.over h.1).2 hF
    have := hn x hx
    exact absurd hc (of_decide_eq_false this)
  · rw [hi]
theorem freeS_ok {n : Int} {hs : List Ext} {e : Ext} {F : Int → Prop} (q : Is hs F n) (h : May n e) (hF : ∀ x, Cov e x → ¬ F x) : ∃ hs', freeS n hs e = (0, hs') ∧ Is hs' (fun i => F i ∨ Cov e i) n := by
  unfold freeS
  rw [if_pos h]
  unfold May at h
  rcases find_or (overP e) hs with ⟨hi, hn⟩ | ⟨k, hk, hi, hp, _⟩
  · rw [hi]
    dsimp only
    refine ⟨_, rfl, ?_⟩
    rcases find_or (behindP e) hs with ⟨hj, hm⟩ | ⟨k, hk, hj, hp, hb⟩
    · rw [hj]
      exact q.free_at (Nat.le_refl _) h.1 h.2.1 (by omega) hF (fun j hj _ => by have := of_decide_eq_false (hm _ (List.getElem_mem hj)); omega) (fun j hj hk => absurd hj (Nat.not_lt.2 hk))
    · rw [hj]
      refine q.free_at (Nat.le_of_lt hk) h.1 h.2.1 (by omega) hF (fun j hj hjk => by have := of_decide_eq_false (hb j hj hjk); omega) (fun j hj hkj => ?_)
      have h1 := of_decide_eq_true hp
      rcases Nat.lt_or_ge k j with c | c
      · have h2 := q.before hk hj c
        have h3 := q.pos _ (List.getElem_mem hk)
        omega
      · obtain rfl : j = k := by omega
        exact h1
  · obtain ⟨x, hc, hx⟩ := (q.over h.1).1 ⟨hs[k], List.getElem_mem hk, of_decide_eq_true hp⟩
    exact absurd hx (hF x hc)
theorem allocS_arg {hs : List Ext} {c : Int} (h : c < 1) : allocS hs c = (1, (0, 0), hs) := by unfold allocS; rw [if_pos h]
/-- either no blocks in a row are free, so many; or the first are taken -/
theorem allocS_or {n : Int} {hs : List Ext} {c : Int} {F : Int → Prop} (q : Is hs F n) (h : ¬ c < 1) :
    (allocS hs c = (2, (0, 0), hs) ∧ ∀ i, ¬ ∀ x, i ≤ x → x < i + c → F x) ∨
    ∃ a hs', allocS hs c = (0, (a, c), hs') ∧ May n (a, c) ∧ (∀ x, Cov (a, c) x → F x) ∧ (∀ i, i < a → ¬ ∀ x, i ≤ x → x < i + c → F x) ∧ Is hs' (fun i => F i ∧ ¬ Cov (a, c) i) n := by
  unfold allocS
  rw [if_neg h]
  rcases find_or (fitsP c) hs with ⟨hi, hn⟩ | ⟨k, hk, hi, hp, hb⟩
  · rw [hi]
    exact .inl ⟨rfl, fun i => q.none (by omega) (fun x hx => by have := of_decide_eq_false (hn x hx); omega) i⟩
  · rw [hi]
    dsimp only
    rw [hAt_eq hk]
    have h1 : c ≤ hs[k].2 := of_decide_eq_true hp
    have h2 := q.pos _ (List.getElem_mem hk)
    refine .inr ⟨hs[k].1, _, rfl, by unfold May; dsimp only; omega, fun x hx => ?_, fun i hi => q.first hk (by omega) (fun j hj hjk => by have := of_decide_eq_false (hb j hj hjk); omega) i hi, ?_⟩
    · unfold Cov at hx
      exact q.holds hk (Int.le_refl _) (by omega) x hx.1 hx.2
    · exact q.cut_at hk (by dsimp only; omega) (Int.le_refl _) (by dsimp only; omega)
theorem w64 {x : Int} (h : -1000000 ≤ x ∧ x ≤ 1000000) : wrap64 x = x := by unfold wrap64; omega
theorem getD_in {t : List Bool} {i : Nat} (h : i < t.length) : t.getD i false = t.getD i true := by
  rw [List.getD_eq_getElem?_getD, List.getD_eq_getElem?_getD, List.getElem?_eq_getElem h]; rfl
theorem rd_in {t : List Bool} {i : Int} (h0 : 0 ≤ i) (h : i < (t.length : Int)) : rdOf false t i = t.getD i.toNat true := getD_in (by omega)
theorem same_ev : ∀ (m : Nat) (l : List S31) (x : Int), 0 ≤ x → x + m = l.length → l.length ≤ 100000 → Ev (fun k => peristyleref05_Same.l0 k l l x) true
  | 0, l, x, h0, h1, h2 => Ev.step (fun k => peristyleref05_Same.l0_succ k _ _ _) (Ev.no (by omega) (Ev.now _))
  | m + 1, l, x, h0, h1, h2 => by
    have ih := same_ev m l (x + 1) (by omega) (by omega) h2
    have e : wrap64 (x + 1) = x + 1 := w64 (by omega)
    exact Ev.step (fun k => peristyleref05_Same.l0_succ k _ _ _) (Ev.yes (by omega) (Ev.yes (by omega) (Ev.yes (by omega) (Ev.no (by simp) (by rw [e]; exact ih)))))
theorem same_self (l : List S31) (h : l.length ≤ 100000) : Ev (fun k => peristyleref05_Same.f k l l) true := Ev.yes rfl (same_ev l.length l 0 (Int.le_refl _) (by omega) h)
theorem may_def {n e1 e2 : Int} : May n (e1, e2) ↔ 1 ≤ e2 ∧ 0 ≤ e1 ∧ e1 < n ∧ e2 ≤ n - e1 := Iff.rfl
theorem may_eq (t : List Bool) (e1 e2 : Int) (ht : t.length ≤ 100000) : peristyleref05_may.f t e1 e2 = some (decide (May (t.length : Int) (e1, e2))) := by
  unfold peristyleref05_may.f
  by_cases a : e2 ≥ 1
  · rw [if_pos a]
    by_cases b : e1 ≥ 0
    · rw [if_pos b]
      by_cases c : e1 < (t.length : Int)
      · rw [if_pos c, w64 (by omega)]
        congr 1
        exact decide_eq_decide.2 ⟨fun h => may_def.2 ⟨a, b, c, h⟩, fun h => (may_def.1 h).2.2.2⟩
      · rw [if_neg c, decide_eq_false (fun h => c (may_def.1 h).2.2.1)]
    · rw [if_neg b, decide_eq_false (fun h => b (may_def.1 h).2.1)]
  · rw [if_neg a, decide_eq_false (fun h => a (may_def.1 h).1)]
theorem all_ev (t : List Bool) (v : Bool) (e1 e2 : Int) (h0 : 0 ≤ e1) (hl : e1 + e2 ≤ (t.length : Int)) (ht : t.length ≤ 100000) : ∀ (m : Nat) (j : Int), 0 ≤ j → j + m = e2 → ∃ b, Ev (fun k => peristyleref05_all.l0 k t v j e1 e2) b ∧ (b = true ↔ ∀ i, e1 + j ≤ i → i < e1 + e2 → t.getD i.toNat true = v)
  | 0, j, hj, hm => ⟨true, Ev.step (fun k => peristyleref05_all.l0_succ k _ _ _ _ _) (Ev.no (by omega) (Ev.now _)), ⟨fun _ i a b => by omega, fun _ => rfl⟩⟩
  | m + 1, j, hj, hm => by
    obtain ⟨b, hb, hb2⟩ := all_ev t v e1 e2 h0 hl ht m (j + 1) (by omega) (by omega)
    have w1 : wrap64 (e1 + j) = e1 + j := w64 (by omega)
    have w2 : wrap64 (j + 1) = j + 1 := w64 (by omega)
    have rd : rdOf false t (e1 + j) = t.getD (e1 + j).toNat true := rd_in (by omega) (by omega)
    by_cases c : t.getD (e1 + j).toNat true = v
    · refine ⟨b, Ev.step (fun k => peristyleref05_all.l0_succ k _ _ _ _ _) (Ev.yes (by omega) (Ev.yes (by rw [w1]; omega) (Ev.yes (by rw [w1]; omega) (Ev.no (by rw [w1, rd, c]; simp) (by rw [w2]; exact hb))))), hb2.trans ⟨fun h i a d => ?_, fun h i a d => h i (by omega) d⟩⟩
      by_cases e : i = e1 + j
      · rw [e]; exact c
      · exact h i (by omega) d
    · refine ⟨false, Ev.step (fun k => peristyleref05_all.l0_succ k _ _ _ _ _) (Ev.yes (by omega) (Ev.yes (by rw [w1]; omega) (Ev.yes (by rw [w1]; omega) (Ev.yes (by rw [w1, rd]; simpa using c) (Ev.now _))))), ⟨fun h => (by cases h), fun h => absurd (h (e1 + j) (by omega) (by omega)) c⟩⟩
theorem all_f (t : List Bool) (v : Bool) (e1 e2 : Int) (hm : May (t.length : Int) (e1, e2)) (ht : t.length ≤ 100000) : ∃ b, Ev (fun k => peristyleref05_all.f k t e1 e2 v) b ∧ (b = true ↔ ∀ i, Cov (e1, e2) i → t.getD i.toNat true = v) := by
  unfold May at hm
  dsimp only at hm
  obtain ⟨b, h1, h2⟩ := all_ev t v e1 e2 hm.2.1 (by omega) ht e2.toNat 0 (Int.le_refl _) (by omega)
  refine ⟨b, h1, h2.trans ⟨fun h i hi => h i ?_ ?_, fun h i a d => h i ?_⟩⟩ <;> unfold Cov at * <;> dsimp only at * <;> omega
theorem set_ev (v : Bool) (e1 e2 : Int) (h0 : 0 ≤ e1) : ∀ (m : Nat) (j : Int) (l : List Bool), 0 ≤ j → j + m = e2 → e1 + e2 ≤ (l.length : Int) → l.length ≤ 100000 → ∃ r, Ev (fun k => peristyleref05_set.l0 k v l j e1 e2) r ∧ r.length = l.length ∧ ∀ p : Nat, p < l.length → r.getD p true = if e1 + j ≤ (p : Int) ∧ (p : Int) < e1 + e2 then v else l.getD p true
  | 0, j, l, hj, hm, hl, ht => ⟨l, Ev.step (fun k => peristyleref05_set.l0_succ k _ _ _ _ _) (Ev.no (by omega) (Ev.now _)), rfl, fun p hp => by rw [if_neg (by omega)]⟩
  | m + 1, j, l, hj, hm, hl, ht => by
    obtain ⟨r, hr, hr1, hr2⟩ := set_ev v e1 e2 h0 m (j + 1) (l.set (e1 + j).toNat v) (by omega) (by omega) (by rw [List.length_set]; exact hl) (by rw [List.length_set]; exact ht)
    rw [List.length_set] at hr1 hr2
    have w1 : wrap64 (e1 + j) = e1 + j := w64 (by omega)
    have w2 : wrap64 (j + 1) = j + 1 := w64 (by omega)
    refine ⟨r, Ev.step (fun k => peristyleref05_set.l0_succ k _ _ _ _ _) (Ev.yes (by omega) (Ev.yes (by rw [w1]; omega) (Ev.yes (by rw [w1]; omega) (by rw [w1, w2]; exact hr)))), hr1, fun p hp => ?_⟩
    rw [hr2 p hp]
    by_cases c : (p : Int) = e1 + j
    · rw [if_neg (by omega), if_pos (by omega), List.getD_eq_getElem?_getD, List.getElem?_set, if_pos (by omega), if_pos (by omega)]; rfl
    · have : (l.set (e1 + j).toNat v).getD p true = l.getD p true := by rw [List.getD_eq_getElem?_getD, List.getElem?_set, if_neg (by omega), List.getD_eq_getElem?_getD]
      rw [this]
      by_cases d : e1 + j ≤ (p : Int) ∧ (p : Int) < e1 + e2
      · rw [if_pos d, if_pos (by omega)]
      · rw [if_neg d, if_neg (by omega)]
theorem eq_getD {a b : List Bool} (h : a.length = b.length) (h2 : ∀ p, p < b.length → a.getD p true = b.getD p true) : a = b := by
  refine List.ext_getElem h fun i h3 h4 => ?_
  have := h2 i h4
  rw [List.getD_eq_getElem?_getD, List.getD_eq_getElem?_getD, List.getElem?_eq_getElem h3, List.getElem?_eq_getElem h4] at this
  exact this
theorem set_f (t : List Bool) (v : Bool) (e1 e2 : Int) (hm : May (t.length : Int) (e1, e2)) (ht : t.length ≤ 100000) : Ev (fun k => peristyleref05_set.f k t e1 e2 v) (setR t (e1, e2) v) := by
  unfold May at hm
  dsimp only at hm
  obtain ⟨r, h1, h2, h3⟩ := set_ev v e1 e2 hm.2.1 e2.toNat 0 t (Int.le_refl _) (by omega) (by omega) ht
  have : setR t (e1, e2) v = r := by
    refine eq_getD (by rw [setR_length, h2]) fun p hp => ?_
    rw [h2] at hp
    rw [setR_getD _ _ _ _ hp, h3 p hp]
    dsimp only
    by_cases d : e1 ≤ (p : Int) ∧ (p : Int) < e1 + e2
    · rw [if_pos d, if_pos (by omega)]
    · rw [if_neg d, if_neg (by omega)]
  rw [this]
  exact Ev.yes (by simp; omega) h1
/-- all blocks of an extent are free, or none is -/
def AllFree (t : List Bool) (e : Ext) : Prop := ∀ i, Cov e i → Fr8 t i
def NoFree (t : List Bool) (e : Ext) : Prop := ∀ i, Cov e i → ¬ Fr8 t i
theorem cov_in {n : Int} {e : Ext} (h : May n e) {i : Int} (hc : Cov e i) : 0 ≤ i ∧ i < n := by unfold May at h; unfold Cov at hc; omega
theorem all_free (t : List Bool) (e1 e2 : Int) (hm : May (t.length : Int) (e1, e2)) (ht : t.length ≤ 100000) : ∃ b, Ev (fun k => peristyleref05_all.f k t e1 e2 false) b ∧ (b = true ↔ AllFree t (e1, e2)) := by
  obtain ⟨b, h1, h2⟩ := all_f t false e1 e2 hm ht
  exact ⟨b, h1, h2.trans ⟨fun h i hi => ⟨(cov_in hm hi).1, (cov_in hm hi).2, h i hi⟩, fun h i hi => (h i hi).2.2⟩⟩
theorem no_free (t : List Bool) (e1 e2 : Int) (hm : May (t.length : Int) (e1, e2)) (ht : t.length ≤ 100000) : ∃ b, Ev (fun k => peristyleref05_all.f k t e1 e2 true) b ∧ (b = true ↔ NoFree t (e1, e2)) := by
  obtain ⟨b, h1, h2⟩ := all_f t true e1 e2 hm ht
  refine ⟨b, h1, h2.trans ⟨fun h i hi hf => ?_, fun h i hi => ?_⟩⟩
  · have := hf.2.2
    rw [h i hi] at this
    cases this
  · cases hb : t.getD i.toNat true with
    | true => rfl
    | false => exact absurd ⟨(cov_in hm hi).1, (cov_in hm hi).2, hb⟩ (h i hi)
theorem takeR_no (t : List Bool) (e1 e2 : Int) (ht : t.length ≤ 100000) (h : ¬ May (t.length : Int) (e1, e2)) : Ev (fun k => peristyleref05_Take.f k t e1 e2) (t, 1) :=
  Ev.call (may_eq t e1 e2 ht) (Ev.no (by simpa using h) (Ev.now _))
theorem freeR_no (t : List Bool) (e1 e2 : Int) (ht : t.length ≤ 100000) (h : ¬ May (t.length : Int) (e1, e2)) : Ev (fun k => peristyleref05_Free.f k t e1 e2) (t, 1) :=
  Ev.call (may_eq t e1 e2 ht) (Ev.no (by simpa using h) (Ev.now _))
theorem takeR_ok (t : List Bool) (e1 e2 : Int) (ht : t.length ≤ 100000) (h : May (t.length : Int) (e1, e2)) (hF : AllFree t (e1, e2)) : Ev (fun k => peristyleref05_Take.f k t e1 e2) (setR t (e1, e2) true, 0) := by
  obtain ⟨b, h1, h2⟩ := all_free t e1 e2 h ht
  obtain rfl : b = true := h2.2 hF
  exact Ev.call (may_eq t e1 e2 ht) (Ev.yes (by simpa using h) (Ev.bind h1 (Ev.yes rfl (Ev.bind (set_f t true e1 e2 h ht) (Ev.now _)))))
theorem takeR_none (t : List Bool) (e1 e2 : Int) (ht : t.length ≤ 100000) (h : May (t.length : Int) (e1, e2)) (hF : ¬ AllFree t (e1, e2)) : Ev (fun k => peristyleref05_Take.f k t e1 e2) (t, 3) := by
  obtain ⟨b, h1, h2⟩ := all_free t e1 e2 h ht
  have hb : ¬ b = true := fun e => hF (h2.1 e)
  exact Ev.call (may_eq t e1 e2 ht) (Ev.yes (by simpa using h) (Ev.bind h1 (Ev.no hb (Ev.now _))))
theorem freeR_ok (t : List Bool) (e1 e2 : Int) (ht : t.length ≤ 100000) (h : May (t.length : Int) (e1, e2)) (hF : NoFree t (e1, e2)) : Ev (fun k => peristyleref05_Free.f k t e1 e2) (setR t (e1, e2) false, 0) := by
  obtain ⟨b, h1, h2⟩ := no_free t e1 e2 h ht
  obtain rfl : b = true := h2.2 hF
  exact Ev.call (may_eq t e1 e2 ht) (Ev.yes (by simpa using h) (Ev.bind h1 (Ev.yes rfl (Ev.bind (set_f t false e1 e2 h ht) (Ev.now _)))))
theorem freeR_none (t : List Bool) (e1 e2 : Int) (ht : t.length ≤ 100000) (h : May (t.length : Int) (e1, e2)) (hF : ¬ NoFree t (e1, e2)) : Ev (fun k => peristyleref05_Free.f k t e1 e2) (t, 3) := by
  obtain ⟨b, h1, h2⟩ := no_free t e1 e2 h ht
  have hb : ¬ b = true := fun e => hF (h2.1 e)
  exact Ev.call (may_eq t e1 e2 ht) (Ev.yes (by simpa using h) (Ev.bind h1 (Ev.no hb (Ev.now _))))
/-- one step of Alloc at a place where no blocks in a row are free -/
theorem alloc_next (t : List Bool) (c x : Int) (ht : t.length ≤ 100000) (h0 : 0 ≤ x) (hx : x < (t.length : Int)) (hb : ¬ ∀ y, x ≤ y → y < x + c → Fr8 t y) {r : List Bool × Int × Int × Int} (h : Ev (fun k => peristyleref05_Alloc.l0 k t c (x + 1)) r) : Ev (fun k => peristyleref05_Alloc.l0 k t c x) r := by
  have w1 : wrap64 (x + 1) = x + 1 := w64 (by omega)
  by_cases hm : May (t.length : Int) (x, c)
  · obtain ⟨b, h1, h2⟩ := all_free t x c hm ht
    have hbn : ¬ b = true := fun e => hb fun y hy1 hy2 => h2.1 e y (by unfold Cov; dsimp only; omega)
    exact Ev.step (fun k => peristyleref05_Alloc.l0_succ k _ _ _) (Ev.yes hx (Ev.call (may_eq t x c ht) (Ev.yes (by simpa using hm) (Ev.bind h1 (Ev.no hbn (by rw [w1]; exact h))))))
  · exact Ev.step (fun k => peristyleref05_Alloc.l0_succ k _ _ _) (Ev.yes hx (Ev.call (may_eq t x c ht) (Ev.no (by simpa using hm) (by rw [w1]; exact h))))
theorem alloc_hit (t : List Bool) (c a : Int) (ht : t.length ≤ 100000) (ha : May (t.length : Int) (a, c)) (hF : AllFree t (a, c)) (hb : ∀ i, i < a → ¬ ∀ x, i ≤ x → x < i + c → Fr8 t x) :
    ∀ (m : Nat) (x : Int), 0 ≤ x → x + m = a → Ev (fun k => peristyleref05_Alloc.l0 k t c x) (setR t (a, c) true, a, c, 0)
  | 0, x, h0, hm => by
    obtain rfl : x = a := by omega
    obtain ⟨b, h1, h2⟩ := all_free t x c ha ht
    obtain rfl : b = true := h2.2 hF
    have hx : x < (t.length : Int) := ha.2.2.1
    exact Ev.step (fun k => peristyleref05_Alloc.l0_succ k _ _ _) (Ev.yes hx (Ev.call (may_eq t x c ht) (Ev.yes (by simpa using ha) (Ev.bind h1 (Ev.yes rfl (Ev.bind (set_f t true x c ha ht) (Ev.now _)))))))
  | m + 1, x, h0, hm => alloc_next t c x ht h0 (by have := ha.2.2.1; dsimp only at this; omega) (hb x (by omega)) (alloc_hit t c a ht ha hF hb m (x + 1) (by omega) (by omega))
theorem alloc_miss (t : List Bool) (c : Int) (ht : t.length ≤ 100000) (hb : ∀ i, ¬ ∀ x, i ≤ x → x < i + c → Fr8 t x) :
    ∀ (m : Nat) (x : Int), 0 ≤ x → x + m = (t.length : Int) → Ev (fun k => peristyleref05_Alloc.l0 k t c x) (t, 0, 0, 2)
  | 0, x, h0, hm => Ev.step (fun k => peristyleref05_Alloc.l0_succ k _ _ _) (Ev.no (by omega) (Ev.now _))
  | m + 1, x, h0, hm => alloc_next t c x ht h0 (by omega) (hb x) (alloc_miss t c ht hb m (x + 1) (by omega) (by omega))
theorem left_ev (t : List Bool) (ht : t.length ≤ 100000) : ∀ (m i : Nat) (a : Int), i + m = t.length → 0 ≤ a → a ≤ (i : Int) → Ev (fun k => peristyleref05_Left.l0 k t a (i : Int)) (a + (((t.drop i).filter (fun b => !b)).length : Int))
  | 0, i, a, hm, h0, ha => by
    rw [List.drop_eq_nil_of_le (by omega)]
    simp only [List.filter_nil, List.length_nil, Int.natCast_zero, Int.add_zero]
    exact Ev.step (fun k => peristyleref05_Left.l0_succ k _ _ _) (Ev.no (by omega) (Ev.now _))
  | m + 1, i, a, hm, h0, ha => by
    have hi : i < t.length := by omega
    have w1 : wrap64 ((i : Int) + 1) = ((i + 1 : Nat) : Int) := by rw [w64 (by omega)]; omega
    have rd : rdOf false t (i : Int) = t[i] := by rw [rd_in (by omega) (by omega), Int.toNat_natCast, List.getD_eq_getElem?_getD, List.getElem?_eq_getElem hi]; rfl
    rw [List.drop_eq_getElem_cons hi]
    cases hb : t[i] with
    | true =>
      have ih := left_ev t ht m (i + 1) a (by omega) h0 (by omega)
      rw [List.filter_cons_of_neg (by simp)]
      exact Ev.step (fun k => peristyleref05_Left.l0_succ k _ _ _) (Ev.yes (by omega) (Ev.yes (by omega) (Ev.yes (by rw [rd, hb]) (by rw [w1]; exact ih))))
    | false =>
      have ih := left_ev t ht m (i + 1) (a + 1) (by omega) (by omega) (by omega)
      have w2 : wrap64 (a + 1) = a + 1 := w64 (by omega)
      rw [List.filter_cons_of_pos (by simp), List.length_cons]
      have e : a + (((t.drop (i + 1)).filter (fun b => !b)).length + 1 : Nat) = a + 1 + (((t.drop (i + 1)).filter (fun b => !b)).length : Int) := by omega
      rw [e]
      exact Ev.step (fun k => peristyleref05_Left.l0_succ k _ _ _) (Ev.yes (by omega) (Ev.yes (by omega) (Ev.no (by rw [rd, hb]; simp) (by rw [w1, w2]; exact ih))))
theorem holes_ev (t : List Bool) (ht : t.length ≤ 100000) : ∀ (m i : Nat) (out : List Ext), i + m = t.length → Upto t i out → ∃ r, Ev (fun k => peristyleref05_Holes.l0 k t (out.map toS) (i : Int)) (r.map toS) ∧ Upto t t.length r
  | 0, i, out, hm, u => by
    obtain rfl : i = t.length := by omega
    exact ⟨out, Ev.step (fun k => peristyleref05_Holes.l0_succ k _ _ _) (Ev.no (by omega) (Ev.now _)), u⟩
  | m + 1, i, out, hm, u => by
    have hi : i < t.length := by omega
    have w1 : wrap64 ((i : Int) + 1) = ((i + 1 : Nat) : Int) := by rw [w64 (by omega)]; omega
    have rd : rdOf false t (i : Int) = t.getD i true := by rw [rd_in (by omega) (by omega), Int.toNat_natCast]
    have hlen : (out.map toS).length < 8796093022208 := by
      have := u.is.length_le (by omega)
      rw [List.length_map]; omega
    cases hb : t.getD i true with
    | true =>
      obtain ⟨r, h1, h2⟩ := holes_ev t ht m (i + 1) out (by omega) (u.skip hi hb)
      exact ⟨r, Ev.step (fun k => peristyleref05_Holes.l0_succ k _ _ _) (Ev.yes (by omega) (Ev.yes (by omega) (Ev.yes (by rw [rd, hb]) (by rw [w1]; exact h1)))), h2⟩
    | false =>
      have hrd : ¬ rdOf false t (i : Int) = true := by rw [rd, hb]; simp
      by_cases c0 : i = 0
      · subst c0
        obtain ⟨r, h1, h2⟩ := holes_ev t ht m (0 + 1) (out ++ [(((0 : Nat) : Int), 1)]) (by omega) (u.new hi hb (.inl rfl))
        rw [List.map_append] at h1
        exact ⟨r, Ev.step (fun k => peristyleref05_Holes.l0_succ k _ _ _) (Ev.yes (by omega) (Ev.yes (by omega) (Ev.no hrd (Ev.no (by omega) (Ev.yes hlen (by rw [w1]; exact h1)))))), h2⟩
      · have w2 : wrap64 ((i : Int) - 1) = ((i - 1 : Nat) : Int) := by rw [w64 (by omega)]; omega
        have rd2 : rdOf false t ((i - 1 : Nat) : Int) = t.getD (i - 1) true := by rw [rd_in (by omega) (by omega), Int.toNat_natCast]
        cases hp : t.getD (i - 1) true with
        | true =>
          obtain ⟨r, h1, h2⟩ := holes_ev t ht m (i + 1) (out ++ [((i : Int), 1)]) (by omega) (u.new hi hb (.inr hp))
          rw [List.map_append] at h1
          exact ⟨r, Ev.step (fun k => peristyleref05_Holes.l0_succ k _ _ _) (Ev.yes (by omega) (Ev.yes (by omega) (Ev.no hrd (Ev.yes (by omega) (Ev.yes (by rw [w2]; omega) (Ev.yes (by rw [w2]; omega) (Ev.yes (by rw [w2, rd2, hp]) (Ev.yes hlen (by rw [w1]; exact h1))))))))), h2⟩
        | false =>
          obtain ⟨A, h, rfl, he⟩ := u.beside (by omega) hp
          obtain ⟨r, h1, h2⟩ := holes_ev t ht m (i + 1) (A ++ [(h.1, h.2 + 1)]) (by omega) (u.more hi hb he)
          have hl : ((A ++ [h]).map toS).length = A.length + 1 := by simp
          have hpos := u.is.pos h (by simp)
          have w3 : wrap64 ((((A ++ [h]).map toS).length : Int) - 1) = (A.length : Int) := by rw [hl] at *; rw [w64 (by have := u.is.length_le (by omega); simp at this; omega)]; omega
          have rd3 : rd_T31 ((A ++ [h]).map toS) (A.length : Int) = toS h := by
            unfold rd_T31
            rw [Int.toNat_natCast, List.map_append, List.getD_eq_getElem?_getD, List.getElem?_append_right (by simp)]
            simp
          have w4 : wrap64 (h.2 + 1) = h.2 + 1 := w64 (by omega)
          have es : ((A ++ [h]).map toS).set A.length ⟨h.1, h.2 + 1⟩ = (A ++ [(h.1, h.2 + 1)]).map toS := by
            rw [List.map_append, List.map_append, List.set_append_right _ _ (by simp)]
            simp [toS]
          refine ⟨r, Ev.step (fun k => peristyleref05_Holes.l0_succ k _ _ _) (Ev.yes (by omega) (Ev.yes (by omega) (Ev.no hrd (Ev.yes (by omega) (Ev.yes (by rw [w2]; omega) (Ev.yes (by rw [w2]; omega) (Ev.no (by rw [w2, rd2, hp]; simp) (Ev.yes (by rw [w3]; omega) (Ev.yes (by rw [w3, hl]; omega) ?_))))))))), h2⟩
          rw [w1, w3, rd3, Int.toNat_natCast]
          show Ev (fun k => peristyleref05_Holes.l0 k t (((A ++ [h]).map toS).set A.length ⟨h.1, wrap64 (h.2 + 1)⟩) ((i + 1 : Nat) : Int)) (r.map toS)
          rw [w4, es]
          exact h1
theorem holes_f (t : List Bool) (ht : t.length ≤ 100000) {hs : List Ext} (q : Is hs (Fr8 t) (t.length : Int)) : Ev (fun k => peristyleref05_Holes.f k t) (hs.map toS) ∧ sumE hs = ((t.filter (fun b => !b)).length : Int) := by
  obtain ⟨r, h1, h2⟩ := holes_ev t ht t.length 0 [] (by omega) (Upto.zero t)
  obtain ⟨h3, h4⟩ := h2.end
  rw [q.uniq h3]
  exact ⟨h1, h4⟩
theorem left_f (t : List Bool) (ht : t.length ≤ 100000) {hs : List Ext} (q : Is hs (Fr8 t) (t.length : Int)) : Ev (fun k => peristyleref05_Left.f k t) (sumE hs) := by
  have h := left_ev t ht t.length 0 0 (by omega) (Int.le_refl _) (by omega)
  rw [(holes_f t ht q).2]
  have h2 : Ev (fun k => peristyleref05_Left.l0 k t 0 0) ((t.filter (fun b => !b)).length : Int) := by simpa using h
  exact h2
theorem longest_ev (out : List Ext) (ho : out.length ≤ 100000) : ∀ (m i : Nat) (a : Int), i + m = out.length → Ev (fun k => peristyleref05_Longest.l0 k a (out.map toS) (i : Int)) (maxE a (out.drop i))
  | 0, i, a, hm => by
    rw [List.drop_eq_nil_of_le (by omega)]
    exact Ev.step (fun k => peristyleref05_Longest.l0_succ k _ _ _) (Ev.no (by rw [List.length_map]; omega) (Ev.now _))
  | m + 1, i, a, hm => by
    have hi : i < out.length := by omega
    have w1 : wrap64 ((i : Int) + 1) = ((i + 1 : Nat) : Int) := by rw [w64 (by omega)]; omega
    have rd : rd_T31 (out.map toS) (i : Int) = toS out[i] := by simp [rd_T31, List.getD_eq_getElem?_getD, hi]
    have ih := longest_ev out ho m (i + 1) (max a out[i].2) (by omega)
    rw [List.drop_eq_getElem_cons hi]
    refine Ev.step (fun k => peristyleref05_Longest.l0_succ k _ _ _) (Ev.yes (by rw [List.length_map]; omega) (Ev.yes (by omega) ?_))
    rw [w1, rd]
    have e : mx a (toS out[i]).f1 = max a out[i].2 := maxif a out[i].2
    rw [e]
    exact ih
theorem longest_f (t : List Bool) (ht : t.length ≤ 100000) {hs : List Ext} (q : Is hs (Fr8 t) (t.length : Int)) : Ev (fun k => peristyleref05_Longest.f k t) (maxE 0 hs) := by
  have hl := q.length_le (by omega)
  have h := longest_ev hs (by omega) hs.length 0 0 (by omega)
  exact Ev.bind (holes_f t ht q).1 h
/-- a row apart from a map that is turned -/
theorem V_moved {α : Type} {d : Kd α} {e base : Nat} {W W' : World} {v : Value} {xs : List α} {b g g' : Nat} (h : Kd.V d e W base (fun k => k ≠ b ∧ k ≠ g) v xs) (hm : Moved W W' b g) (hg : g' = g ∨ W.heap.size ≤ g') : Kd.V d e W' base (fun k => k ≠ b ∧ k ≠ g') v xs :=
  Kd.V_mono (Kd.V_step (Kd.V_bound h) (fun k hk hlt => hm.block k hlt hk.1.1 hk.1.2)) (fun k hk => ⟨hk.1.1, by
    rcases hg with e | e
    · rw [e]; exact hk.1.2
    · have := hk.2; omega⟩)
theorem V_new {α : Type} {d : Kd α} {e base : Nat} {W W' : World} {v : Value} {xs : List α} {b g : Nat} (h : d.R e W' W.heap.size (fun _ => True) v xs) (hb : b < W.heap.size) (hg : g < W.heap.size) : Kd.V d e W' base (fun k => k ≠ b ∧ k ≠ g) v xs :=
  Kd.V_mono (Kd.R_V (Kd.R_bound h)) (fun k hk => ⟨by have := hk.2.1; omega, by have := hk.2.1; omega⟩)
theorem is_new (n : Int) (h : 1 ≤ n) : Is [(0, n)] (fun i => 0 ≤ i ∧ i < n) n :=
  ⟨by simp, fun x hx => by rw [List.mem_singleton.1 hx]; dsimp only; omega, fun i => ⟨fun h => ⟨_, List.mem_singleton.2 rfl, by unfold Cov; dsimp only; omega⟩, fun ⟨x, hx, hc⟩ => by rw [List.mem_singleton.1 hx] at hc; unfold Cov at hc; dsimp only at hc; omega⟩⟩
theorem takeS_is {n : Int} {hs : List Ext} {e : Ext} {F : Int → Prop} (q : Is hs F n) : ∃ F', Is (takeS n hs e).2 F' n := by
  by_cases h : May n e
  · by_cases hF : ∀ x, Cov e x → F x
    · obtain ⟨hs', e1, e2⟩ := takeS_ok q h hF
      rw [e1]; exact ⟨_, e2⟩
    · rw [takeS_none q h hF]; exact ⟨_, q⟩
  · rw [takeS_no h]; exact ⟨_, q⟩
/-- Same of the same extents in two rows -/
theorem same_hs (hs : List Ext) (hl : hs.length ≤ 100000) (A B : Option Addr) (c d : Nat) (w : World) (hA : Kd.C k31 w A (hs.map toS).length (hs.map toS)) (hc : (hs.map toS).length ≤ c) (hB : Kd.C k31 w B (hs.map toS).length (hs.map toS)) (hd : (hs.map toS).length ≤ d) :
    Calls Try.prog 23 #[.slice A hs.length c, .slice B hs.length d] w fun e w' => e = .returned (.bool true) ∧ Below w.heap.size w w' := by
  obtain ⟨k, hk⟩ := same_self (hs.map toS) (by rw [List.length_map]; exact hl)
  have h := peristyleref05_Same.calls k A c (hs.map toS) B d (hs.map toS) true w hA hc hB hd (hk k (Nat.le_refl k))
  simp only [List.length_map] at h
  exact h.mono fun e w' h => ⟨h.1, h.2.below⟩
end Go.Proofs.Ytdchljjhajbehaa.Ex
