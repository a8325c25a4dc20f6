-- Which blocks are free, as rising extents none beside another: the plain law of layer 5.
import Derived.Test.YtdchljjhajbehaaXB
set_option linter.unusedVariables false
set_option linter.unusedSimpArgs false
namespace Go.Proofs.Ytdchljjhajbehaa.Holes
abbrev Ext := Int × Int
def Cov (h : Ext) (i : Int) : Prop := h.1 ≤ i ∧ i < h.1 + h.2
def Gap (a b : Ext) : Prop := a.1 + a.2 < b.1
structure Is (hs : List Ext) (F : Int → Prop) (n : Int) : Prop where
  sep : hs.Pairwise Gap
  pos : ∀ h, h ∈ hs → 1 ≤ h.2 ∧ 0 ≤ h.1 ∧ h.1 + h.2 ≤ n
  cov : ∀ i, F i ↔ ∃ h, h ∈ hs ∧ Cov h i
theorem Is.congr {hs : List Ext} {F G : Int → Prop} {n : Int} (h : Is hs F n) (e : ∀ i, F i ↔ G i) : Is hs G n := ⟨h.sep, h.pos, fun i => (e i).symm.trans (h.cov i)⟩
theorem Is.tail {h : Ext} {hs : List Ext} {F : Int → Prop} {n : Int} (q : Is (h :: hs) F n) : Is hs (fun i => F i ∧ h.1 + h.2 ≤ i) n := by
  obtain ⟨s1, s2⟩ := List.pairwise_cons.1 q.sep
  refine ⟨s2, fun x hx => q.pos x (List.mem_cons_of_mem _ hx), fun i => ?_⟩
  rw [q.cov]
  constructor
  · rintro ⟨⟨x, hx, hc⟩, hi⟩
    rcases List.mem_cons.1 hx with rfl | hx
    · unfold Cov at hc; omega
    · exact ⟨x, hx, hc⟩
  · rintro ⟨x, hx, hc⟩
    have := s1 x hx
    unfold Gap at this
    refine ⟨⟨x, List.mem_cons_of_mem _ hx, hc⟩, ?_⟩
    unfold Cov at hc; omega
theorem Is.uniq : ∀ {hs gs : List Ext} {F : Int → Prop} {n : Int}, Is hs F n → Is gs F n → hs = gs
  | [], [], _, _, _, _ => rfl
  | [], g :: gs, F, n, a, b => by
    have hp := b.pos g (by simp)
    obtain ⟨x, hx, _⟩ := (a.cov g.1).1 ((b.cov g.1).2 ⟨g, by simp, by unfold Cov; omega⟩)
    cases hx
  | h :: hs, [], F, n, a, b => by
    have hp := a.pos h (by simp)
    obtain ⟨x, hx, _⟩ := (b.cov h.1).1 ((a.cov h.1).2 ⟨h, by simp, by unfold Cov; omega⟩)
    cases hx
  | h :: hs, g :: gs, F, n, a, b => by
    have first : ∀ {h g : Ext} {hs gs : List Ext}, Is (h :: hs) F n → Is (g :: gs) F n → h.1 ≤ g.1 := fun {h g hs gs} a b => by
      have hg := b.pos g (by simp)
      obtain ⟨x, hx, hc⟩ := (a.cov g.1).1 ((b.cov g.1).2 ⟨g, by simp, by unfold Cov; omega⟩)
      rcases List.mem_cons.1 hx with rfl | hx
      · exact hc.1
      · have h1 := (List.pairwise_cons.1 a.sep).1 x hx
        have h2 := (a.pos h (by simp)).1
        unfold Gap at h1; unfold Cov at hc; omega
    have e1 : h.1 = g.1 := Int.le_antisymm (first a b) (first b a)
    have len : ∀ {h g : Ext} {hs gs : List Ext}, Is (h :: hs) F n → Is (g :: gs) F n → h.1 = g.1 → h.2 ≤ g.2 := fun {h g hs gs} a b e => by
      refine Classical.byContradiction fun hn => ?_
      have hg := b.pos g (by simp)
      have hF : F (g.1 + g.2) := (a.cov _).2 ⟨h, by simp, by unfold Cov; omega⟩
      obtain ⟨x, hx, hc⟩ := (b.cov _).1 hF
      rcases List.mem_cons.1 hx with rfl | hx
      · unfold Cov at hc; omega
      · have h1 := (List.pairwise_cons.1 b.sep).1 x hx
        unfold Gap at h1; unfold Cov at hc; omega
    have e2 : h.2 = g.2 := Int.le_antisymm (len a b e1) (len b a e1.symm)
    obtain rfl : h = g := Prod.ext e1 e2
    rw [Is.uniq a.tail b.tail]
/-- what stays of a hole when an extent is taken out of it -/
def rest (h e : Ext) : List Ext := (if h.1 < e.1 then [(h.1, e.1 - h.1)] else []) ++ (if e.1 + e.2 < h.1 + h.2 then [(e.1 + e.2, h.1 + h.2 - (e.1 + e.2))] else [])
theorem mem_rest {h e x : Ext} (hx : x ∈ rest h e) (he : 1 ≤ e.2) (h1 : h.1 ≤ e.1) (h2 : e.1 + e.2 ≤ h.1 + h.2) : 1 ≤ x.2 ∧ h.1 ≤ x.1 ∧ x.1 + x.2 ≤ h.1 + h.2 := by
  unfold rest at hx
  rcases List.mem_append.1 hx with hx | hx
  · split at hx
    · obtain rfl := List.mem_singleton.1 hx
      dsimp only; omega
    · cases hx
  · split at hx
    · obtain rfl := List.mem_singleton.1 hx
      dsimp only; omega
    · cases hx
theorem cov_rest {h e : Ext} (he : 1 ≤ e.2) (h1 : h.1 ≤ e.1) (h2 : e.1 + e.2 ≤ h.1 + h.2) (i : Int) : (∃ x, x ∈ rest h e ∧ Cov x i) ↔ Cov h i ∧ ¬ Cov e i := by
  unfold rest
  constructor
  · rintro ⟨x, hx, hc⟩
    rcases List.mem_append.1 hx with hx | hx
    · split at hx
      · obtain rfl := List.mem_singleton.1 hx
        unfold Cov at *; dsimp only at *; omega
      · cases hx
    · split at hx
      · obtain rfl := List.mem_singleton.1 hx
        unfold Cov at *; dsimp only at *; omega
      · cases hx
  · rintro ⟨hc, hn⟩
    by_cases c : i < e.1
    · refine ⟨(h.1, e.1 - h.1), List.mem_append.2 (.inl ?_), ?_⟩
      · rw [if_pos (by unfold Cov at hc; omega)]; exact List.mem_singleton.2 rfl
      · unfold Cov at *; dsimp only; omega
    · refine ⟨(e.1 + e.2, h.1 + h.2 - (e.1 + e.2)), List.mem_append.2 (.inr ?_), ?_⟩
      · rw [if_pos (by unfold Cov at *; omega)]; exact List.mem_singleton.2 rfl
      · unfold Cov at *; dsimp only; omega
theorem sep_rest {h e : Ext} (he : 1 ≤ e.2) : (rest h e).Pairwise Gap := by
  unfold rest
  refine List.pairwise_append.2 ⟨by split <;> simp, by split <;> simp, fun x hx y hy => ?_⟩
  split at hx
  · obtain rfl := List.mem_singleton.1 hx
    split at hy
    · obtain rfl := List.mem_singleton.1 hy
      unfold Gap; dsimp only; omega
    · cases hy
  · cases hx
theorem Is.cut {A B : List Ext} {h e : Ext} {F : Int → Prop} {n : Int} (q : Is (A ++ h :: B) F n) (he : 1 ≤ e.2) (h1 : h.1 ≤ e.1) (h2 : e.1 + e.2 ≤ h.1 + h.2) : Is (A ++ rest h e ++ B) (fun i => F i ∧ ¬ Cov e i) n := by
  obtain ⟨sA, sB, sAB⟩ := List.pairwise_append.1 q.sep
  obtain ⟨sh, sB⟩ := List.pairwise_cons.1 sB
  have hh := q.pos h (by simp)
  refine ⟨List.pairwise_append.2 ⟨List.pairwise_append.2 ⟨sA, sep_rest he, fun x hx y hy => ?_⟩, sB, fun x hx y hy => ?_⟩, fun x hx => ?_, fun i => ?_⟩
  · have a := sAB x hx h (by simp)
    have b := mem_rest hy he h1 h2
    unfold Gap at *; omega
  · rcases List.mem_append.1 hx with hx | hx
    · exact sAB x hx y (List.mem_cons_of_mem _ hy)
    · have a := sh y hy
      have b := mem_rest hx he h1 h2
      unfold Gap at *; omega
  · rcases List.mem_append.1 hx with hx | hx
    · rcases List.mem_append.1 hx with hx | hx
      · exact q.pos x (by simp [hx])
      · have b := mem_rest hx he h1 h2
        omega
    · exact q.pos x (by simp [hx])
  · rw [q.cov]
    have hr := cov_rest (i := i) he h1 h2
    constructor
    · rintro ⟨⟨x, hx, hc⟩, hn⟩
      rcases List.mem_append.1 hx with hx | hx
      · exact ⟨x, by simp [hx], hc⟩
      · rcases List.mem_cons.1 hx with rfl | hx
        · obtain ⟨y, hy, hc⟩ := hr.2 ⟨hc, hn⟩
          exact ⟨y, by simp [hy], hc⟩
        · exact ⟨x, by simp [hx], hc⟩
    · rintro ⟨x, hx, hc⟩
      rcases List.mem_append.1 hx with hx | hx
      · rcases List.mem_append.1 hx with hx | hx
        · have a := sAB x hx h (by simp)
          exact ⟨⟨x, by simp [hx], hc⟩, by unfold Gap at a; unfold Cov at *; omega⟩
        · obtain ⟨a, b⟩ := hr.1 ⟨x, hx, hc⟩
          exact ⟨⟨h, by simp, a⟩, b⟩
      · have a := sh x hx
        exact ⟨⟨x, by simp [hx], hc⟩, by unfold Gap at a; unfold Cov at *; omega⟩
/-- an extent that is put between two parts of the holes, beside neither -/
theorem Is.put {A B : List Ext} {e : Ext} {F : Int → Prop} {n : Int} (q : Is (A ++ B) F n) (he : 1 ≤ e.2) (h0 : 0 ≤ e.1) (hn : e.1 + e.2 ≤ n) (ha : ∀ x, x ∈ A → Gap x e) (hb : ∀ x, x ∈ B → Gap e x) : Is (A ++ [e] ++ B) (fun i => F i ∨ Cov e i) n := by
  obtain ⟨sA, sB, sAB⟩ := List.pairwise_append.1 q.sep
  refine ⟨List.pairwise_append.2 ⟨List.pairwise_append.2 ⟨sA, by simp, fun x hx y hy => by rw [List.mem_singleton.1 hy]; exact ha x hx⟩, sB, fun x hx y hy => ?_⟩, fun x hx => ?_, fun i => ?_⟩
  · rcases List.mem_append.1 hx with hx | hx
    · exact sAB x hx y hy
    · rw [List.mem_singleton.1 hx]; exact hb y hy
  · rcases List.mem_append.1 hx with hx | hx
    · rcases List.mem_append.1 hx with hx | hx
      · exact q.pos x (by simp [hx])
      · rw [List.mem_singleton.1 hx]; exact ⟨he, h0, hn⟩
    · exact q.pos x (by simp [hx])
  · rw [q.cov]
    constructor
    · rintro (⟨x, hx, hc⟩ | hc)
      · refine ⟨x, ?_, hc⟩
        rcases List.mem_append.1 hx with hx | hx <;> simp [hx]
      · exact ⟨e, by simp, hc⟩
    · rintro ⟨x, hx, hc⟩
      rcases List.mem_append.1 hx with hx | hx
      · rcases List.mem_append.1 hx with hx | hx
        · exact .inl ⟨x, by simp [hx], hc⟩
        · rw [List.mem_singleton.1 hx] at hc; exact .inr hc
      · exact .inl ⟨x, by simp [hx], hc⟩
/-- a hole taken away whole -/
theorem Is.drop {A B : List Ext} {h : Ext} {F : Int → Prop} {n : Int} (q : Is (A ++ h :: B) F n) : Is (A ++ B) (fun i => F i ∧ ¬ Cov h i) n := by
  have hh := q.pos h (by simp)
  have r := q.cut (e := h) hh.1 (Int.le_refl _) (Int.le_refl _)
  have e : rest h h = [] := by unfold rest; rw [if_neg (by omega), if_neg (by omega)]; rfl
  rw [e, List.append_nil] at r
  exact r
/-- an interval that is free lies within one hole -/
theorem Is.within {hs : List Ext} {F : Int → Prop} {n : Int} (q : Is hs F n) {a c : Int} (hc : 1 ≤ c) (hF : ∀ i, a ≤ i → i < a + c → F i) : ∃ k : Nat, ∃ hk : k < hs.length, hs[k].1 ≤ a ∧ a + c ≤ hs[k].1 + hs[k].2 := by
  obtain ⟨h, hh, h1⟩ := (q.cov a).1 (hF a (Int.le_refl _) (by omega))
  obtain ⟨k, hk, rfl⟩ := List.getElem_of_mem hh
  refine ⟨k, hk, h1.1, Classical.byContradiction fun hn => ?_⟩
  have hp := q.pos _ hh
  unfold Cov at h1
  obtain ⟨g, hg, g1⟩ := (q.cov (hs[k].1 + hs[k].2)).1 (hF _ (by omega) (by omega))
  obtain ⟨j, hj, rfl⟩ := List.getElem_of_mem hg
  have hq := q.pos _ hg
  unfold Cov at g1
  rcases Nat.lt_trichotomy j k with c | rfl | c
  · have := List.pairwise_iff_getElem.1 q.sep j k hj hk c
    unfold Gap at this; omega
  · omega
  · have := List.pairwise_iff_getElem.1 q.sep k j hk hj c
    unfold Gap at this; omega
theorem Is.holds {hs : List Ext} {F : Int → Prop} {n : Int} (q : Is hs F n) {k : Nat} (hk : k < hs.length) {a c : Int} (h1 : hs[k].1 ≤ a) (h2 : a + c ≤ hs[k].1 + hs[k].2) : ∀ i, a ≤ i → i < a + c → F i := fun i hi hj => (q.cov i).2 ⟨hs[k], List.getElem_mem hk, by unfold Cov; omega⟩
theorem Is.range {hs : List Ext} {F : Int → Prop} {n : Int} (q : Is hs F n) {i : Int} (h : F i) : 0 ≤ i ∧ i < n := by
  obtain ⟨x, hx, hc⟩ := (q.cov i).1 h
  have := q.pos x hx
  unfold Cov at hc; omega
/-- holes with a number below another's lie before it -/
theorem Is.before {hs : List Ext} {F : Int → Prop} {n : Int} (q : Is hs F n) {j k : Nat} (hj : j < hs.length) (hk : k < hs.length) (h : j < k) : hs[j].1 + hs[j].2 < hs[k].1 := List.pairwise_iff_getElem.1 q.sep j k hj hk h
/-- an extent that is to be free, between the holes before it and those behind it -/
structure Fr (A B : List Ext) (e : Ext) (F : Int → Prop) (n : Int) : Prop where
  is : Is (A ++ B) F n
  one : 1 ≤ e.2
  lo : 0 ≤ e.1
  hi : e.1 + e.2 ≤ n
  no : ∀ i, Cov e i → ¬ F i
  la : ∀ x, x ∈ A → x.1 + x.2 ≤ e.1
  lb : ∀ x, x ∈ B → e.1 + e.2 ≤ x.1
theorem Fr.of {A B : List Ext} {e : Ext} {F : Int → Prop} {n : Int} (q : Is (A ++ B) F n) (h1 : 1 ≤ e.2) (h2 : 0 ≤ e.1) (h3 : e.1 + e.2 ≤ n) (h4 : ∀ i, Cov e i → ¬ F i) (ha : ∀ x, x ∈ A → x.1 ≤ e.1) (hb : ∀ x, x ∈ B → e.1 < x.1) : Fr A B e F n := by
  refine ⟨q, h1, h2, h3, h4, fun x hx => ?_, fun x hx => ?_⟩
  · have hp := q.pos x (by simp [hx])
    have := ha x hx
    refine Classical.byContradiction fun hn => h4 e.1 (by unfold Cov; omega) ((q.cov _).2 ⟨x, by simp [hx], by unfold Cov; omega⟩)
  · have hp := q.pos x (by simp [hx])
    have := hb x hx
    refine Classical.byContradiction fun hn => h4 x.1 (by unfold Cov; omega) ((q.cov _).2 ⟨x, by simp [hx], by unfold Cov; omega⟩)
theorem Fr.done {A B : List Ext} {e : Ext} {F : Int → Prop} {n : Int} (q : Fr A B e F n) (ha : ∀ x, x ∈ A → Gap x e) (hb : ∀ x, x ∈ B → Gap e x) : Is (A ++ [e] ++ B) (fun i => F i ∨ Cov e i) n := q.is.put q.one q.lo q.hi ha hb
theorem Fr.left {A B : List Ext} {a e : Ext} {F : Int → Prop} {n : Int} (q : Fr (A ++ [a]) B e F n) (h : a.1 + a.2 = e.1) : Fr A B (a.1, a.2 + e.2) (fun i => F i ∧ ¬ Cov a i) n ∧ (∀ x, x ∈ A → Gap x (a.1, a.2 + e.2)) ∧ ∀ i, ((F i ∧ ¬ Cov a i) ∨ Cov (a.1, a.2 + e.2) i) ↔ (F i ∨ Cov e i) := by
  have hi := q.is
  rw [List.append_assoc] at hi
  have hp := hi.pos a (by simp)
  have ha : ∀ x, x ∈ A → x.1 + x.2 < a.1 := fun x hx => (List.pairwise_append.1 hi.sep).2.2 x hx a (by simp)
  have h1 := q.one; have h3 := q.hi
  refine ⟨⟨hi.drop, by dsimp only; omega, hp.2.1, by dsimp only; omega, fun i hc => ?_, fun x hx => ?_, fun x hx => ?_⟩, fun x hx => ha x hx, fun i => ?_⟩
  · rintro ⟨hF, hn⟩
    exact q.no i (by unfold Cov at *; dsimp only at hc; omega) hF
  · have := ha x hx; dsimp only; omega
  · have := q.lb x hx; dsimp only; omega
  · have hF : Cov a i → F i := fun hc => (hi.cov i).2 ⟨a, by simp, hc⟩
    constructor
    · rintro (⟨hf, _⟩ | hc)
      · exact .inl hf
      · by_cases c : Cov a i
        · exact .inl (hF c)
        · exact .inr (by unfold Cov at *; dsimp only at hc; omega)
    · rintro (hf | hc)
      · by_cases c : Cov a i
        · exact .inr (by unfold Cov at *; dsimp only; omega)
        · exact .inl ⟨hf, c⟩
      · exact .inr (by unfold Cov at *; dsimp only; omega)
theorem Fr.right {A B : List Ext} {b e : Ext} {F : Int → Prop} {n : Int} (q : Fr A (b :: B) e F n) (h : e.1 + e.2 = b.1) : Fr A B (e.1, e.2 + b.2) (fun i => F i ∧ ¬ Cov b i) n ∧ (∀ x, x ∈ B → Gap (e.1, e.2 + b.2) x) ∧ ∀ i, ((F i ∧ ¬ Cov b i) ∨ Cov (e.1, e.2 + b.2) i) ↔ (F i ∨ Cov e i) := by
  have hi := q.is
  have hp := hi.pos b (by simp)
  have hb : ∀ x, x ∈ B → b.1 + b.2 < x.1 := fun x hx => (List.pairwise_cons.1 (List.pairwise_append.1 hi.sep).2.1).1 x hx
  have h1 := q.one; have h3 := q.hi; have h2 := q.lo
  refine ⟨⟨hi.drop, by dsimp only; omega, h2, by dsimp only; omega, fun i hc => ?_, fun x hx => ?_, fun x hx => ?_⟩, fun x hx => ?_, fun i => ?_⟩
  · rintro ⟨hF, hn⟩
    exact q.no i (by unfold Cov at *; dsimp only at hc; omega) hF
  · exact q.la x hx
  · have := hb x hx; dsimp only; omega
  · have := hb x hx; unfold Gap; dsimp only; omega
  · have hF : Cov b i → F i := fun hc => (hi.cov i).2 ⟨b, by simp, hc⟩
    constructor
    · rintro (⟨hf, _⟩ | hc)
      · exact .inl hf
      · by_cases c : Cov b i
        · exact .inl (hF c)
        · exact .inr (by unfold Cov at *; dsimp only at hc; omega)
    · rintro (hf | hc)
      · by_cases c : Cov b i
        · exact .inr (by unfold Cov at *; dsimp only; omega)
        · exact .inl ⟨hf, c⟩
      · exact .inr (by unfold Cov at *; dsimp only; omega)
theorem Fr.gapL {A B : List Ext} {e : Ext} {F : Int → Prop} {n : Int} (q : Fr A B e F n) (h : ∀ a A', A = A' ++ [a] → a.1 + a.2 ≠ e.1) : ∀ x, x ∈ A → Gap x e := by
  rcases List.eq_nil_or_concat A with rfl | ⟨A', a, rfl⟩
  · intro x hx; cases hx
  · rw [List.concat_eq_append] at *
    have hi := q.is
    rw [List.append_assoc] at hi
    have hp := hi.pos a (by simp)
    have h1 := q.la a (by simp)
    have h2 := h a A' rfl
    intro x hx
    rcases List.mem_append.1 hx with hx | hx
    · have := (List.pairwise_append.1 hi.sep).2.2 x hx a (by simp)
      unfold Gap at *; omega
    · rw [List.mem_singleton.1 hx]; unfold Gap; omega
theorem Fr.gapR {A B : List Ext} {e : Ext} {F : Int → Prop} {n : Int} (q : Fr A B e F n) (h : ∀ b B', B = b :: B' → e.1 + e.2 ≠ b.1) : ∀ x, x ∈ B → Gap e x := by
  cases B with
  | nil => intro x hx; cases hx
  | cons b B' =>
    have hi := q.is
    have hp := hi.pos b (by simp)
    have h1 := q.lb b (by simp)
    have h2 := h b B' rfl
    intro x hx
    rcases List.mem_cons.1 hx with rfl | hx
    · unfold Gap; omega
    · have := (List.pairwise_cons.1 (List.pairwise_append.1 hi.sep).2.1).1 x hx
      unfold Gap at *; omega
/-- what Free puts: the extent, joined with the hole that ends where it begins, and with the one that begins where it ends -/
def joinL (A : List Ext) (e : Ext) : List Ext × Ext := match A.getLast? with
  | some a => if a.1 + a.2 = e.1 then (A.dropLast, (a.1, a.2 + e.2)) else (A, e)
  | none => (A, e)
def joinR (e : Ext) (B : List Ext) : Ext × List Ext := match B with
  | b :: B' => if e.1 + e.2 = b.1 then ((e.1, e.2 + b.2), B') else (e, b :: B')
  | [] => (e, [])
theorem Fr.free {A B : List Ext} {e : Ext} {F : Int → Prop} {n : Int} (q : Fr A B e F n) : Is ((joinL A e).1 ++ [(joinR (joinL A e).2 B).1] ++ (joinR (joinL A e).2 B).2) (fun i => F i ∨ Cov e i) n := by
  have hL : ∃ G, Fr (joinL A e).1 B (joinL A e).2 G n ∧ (∀ x, x ∈ (joinL A e).1 → Gap x (joinL A e).2) ∧ ∀ i, (G i ∨ Cov (joinL A e).2 i) ↔ (F i ∨ Cov e i) := by
    rcases List.eq_nil_or_concat A with rfl | ⟨A', a, rfl⟩
    · exact ⟨F, q, fun x (hx : x ∈ []) => absurd hx List.not_mem_nil, fun i => Iff.rfl⟩
    · rw [List.concat_eq_append] at *
      unfold joinL
      rw [List.getLast?_concat, List.dropLast_concat]
      dsimp only
      split
      · rename_i c
        obtain ⟨r1, r2, r3⟩ := q.left c
        exact ⟨_, r1, r2, r3⟩
      · rename_i c
        refine ⟨F, q, q.gapL fun a' A'' h => ?_, fun i => Iff.rfl⟩
        obtain ⟨_, h2⟩ := List.append_inj' h rfl
        obtain rfl := (List.cons.inj h2).1
        exact c
  obtain ⟨G, g1, g2, g3⟩ := hL
  generalize (joinL A e).1 = A2 at *
  generalize (joinL A e).2 = e2 at *
  cases B with
  | nil => exact (g1.done g2 (fun x hx => absurd hx List.not_mem_nil)).congr g3
  | cons b B' =>
    unfold joinR
    dsimp only
    split
    · rename_i c
      obtain ⟨r1, r2, r3⟩ := g1.right c
      exact (r1.done (fun x hx => g2 x hx) r2).congr fun i => (r3 i).trans (g3 i)
    · rename_i c
      exact (g1.done g2 (g1.gapR fun b' B'' h => by obtain ⟨rfl, rfl⟩ := List.cons.inj h; exact c)).congr g3
end Go.Proofs.Ytdchljjhajbehaa.Holes
