-- Which blocks are free, as rising extents none beside another: the plain law of layer 5.
import Derived.Test.YtdchljjhajbehaaXB
set_option linter.unusedVariables false
set_option linter.unusedSimpArgs false
namespace Go.Proofs.Ytdchljjhajbehaa.Holes
abbrev Ext := Int × Int
def Cov (h : Ext) (i : Int) : Prop := h.1 ≤ i ∧ i < h.1 + h.2
def Gap (a b : Ext) : Prop := a.1 + a.2 < b.1
structure Is (hs : List Ext) (F : Int → Prop) (n : Int) : Prop where
  sep : hs.Pairwise Gap
  pos : ∀ h, h ∈ hs → 1 ≤ h.2 ∧ 0 ≤ h.1 ∧ h.1 + h.2 ≤ n
  cov : ∀ i, F i ↔ ∃ h, h ∈ hs ∧ Cov h i
theorem Is.congr {hs : List Ext} {F G : Int → Prop} {n : Int} (h : Is hs F n) (e : ∀ i, F i ↔ G i) : Is hs G n := ⟨h.sep, h.pos, fun i => (e i).symm.trans (h.cov i)⟩
theorem Is.tail {h : Ext} {hs : List Ext} {F : Int → Prop} {n : Int} (q : Is (h :: hs) F n) : Is hs (fun i => F i ∧ h.1 + h.2 ≤ i) n := by
  obtain ⟨s1, s2⟩ := List.pairwise_cons.1 q.sep
  refine ⟨s2, fun x hx => q.pos x (List.mem_cons_of_mem _ hx), fun i => ?_⟩
  rw [q.cov]
  constructor
  · rintro ⟨⟨x, hx, hc⟩, hi⟩
    rcases List.mem_cons.1 hx with rfl | hx
    · unfold Cov at hc; omega
    · exact ⟨x, hx, hc⟩
  · rintro ⟨x, hx, hc⟩
    have := s1 x hx
    unfold Gap at this
    refine ⟨⟨x, List.mem_cons_of_mem _ hx, hc⟩, ?_⟩
    unfold Cov at hc; omega
theorem Is.uniq : ∀ {hs gs : List Ext} {F : Int → Prop} {n : Int}, Is hs F n → Is gs F n → hs = gs
  | [], [], _, _, _, _ => rfl
  | [], g :: gs, F, n, a, b => by
    have hp := b.pos g (by simp)
    obtain ⟨x, hx, _⟩ := (a.cov g.1).1 ((b.cov g.1).2 ⟨g, by simp, by unfold Cov; omega⟩)
    cases hx
  | h :: hs, [], F, n, a, b => by
    have hp := a.pos h (by simp)
    obtain ⟨x, hx, _⟩ := (b.cov h.1).1 ((a.cov h.1).2 ⟨h, by simp, by unfold Cov; omega⟩)
    cases hx
  | h :: hs, g :: gs, F, n, a, b => by
    have first : ∀ {h g : Ext} {hs gs : List Ext}, Is (h :: hs) F n → Is (g :: gs) F n → h.1 ≤ g.1 := fun {h g hs gs} a b => by
      have hg := b.pos g (by simp)
      obtain ⟨x, hx, hc⟩ := (a.cov g.1).1 ((b.cov g.1).2 ⟨g, by simp, by unfold Cov; omega⟩)
      rcases List.mem_cons.1 hx with rfl | hx
      · exact hc.1
      · have h1 := (List.pairwise_cons.1 a.sep).1 x hx
        have h2 := (a.pos h (by simp)).1
        unfold Gap at h1; unfold Cov at hc; omega
    have e1 : h.1 = g.1 := Int.le_antisymm (first a b) (first b a)
    have len : ∀ {h g : Ext} {hs gs : List Ext}, Is (h :: hs) F n → Is (g :: gs) F n → h.1 = g.1 → h.2 ≤ g.2 := fun {h g hs gs} a b e => by
      refine Classical.byContradiction fun hn => ?_
      have hg := b.pos g (by simp)
      have hF : F (g.1 + g.2) := (a.cov _).2 ⟨h, by simp, by unfold Cov; omega⟩
      obtain ⟨x, hx, hc⟩ := (b.cov _).1 hF
      rcases List.mem_cons.1 hx with rfl | hx
      · unfold Cov at hc; omega
      · have h1 := (List.pairwise_cons.1 b.sep).1 x hx
        unfold Gap at h1; unfold Cov at hc; omega
    have e2 : h.2 = g.2 := Int.le_antisymm (len a b e1) (len b a e1.symm)
    obtain rfl : h = g := Prod.ext e1 e2
    rw [Is.uniq a.tail b.tail]
/-- what stays of a hole when an extent is taken out of it -/
def rest (h e : Ext) : List Ext := (if h.1 < e.1 then [(h.1, e.1 - h.1)] else []) ++ (if e.1 + e.2 < h.1 + h.2 then [(e.1 + e.2, h.1 + h.2 - (e.1 + e.2))] else [])
theorem mem_rest {h e x : Ext} (hx : x ∈ rest h e) (he : 1 ≤ e.2) (h1 : h.1 ≤ e.1) (h2 : e.1 + e.2 ≤ h.1 + h.2) : 1 ≤ x.2 ∧ h.1 ≤ x.1 ∧ x.1 + x.2 ≤ h.1 + h.2 := by
  unfold rest at hx
  rcases List.mem_append.1 hx with hx | hx
  · split at hx
    · obtain rfl := List.mem_singleton.1 hx
      dsimp only; omega
    · cases hx
  · split at hx
    · obtain rfl := List.mem_singleton.1 hx
      dsimp only; omega
    · cases hx
theorem cov_rest {h e : Ext} (he : 1 ≤ e.2) (h1 : h.1 ≤ e.1) (h2 : e.1 + e.2 ≤ h.1 + h.2) (i : Int) : (∃ x, x ∈ rest h e ∧ Cov x i) ↔ Cov h i ∧ ¬ Cov e i := by
  unfold rest
  constructor
  · rintro ⟨x, hx, hc⟩
    rcases List.mem_append.1 hx with hx | hx
    · split at hx
      · obtain rfl := List.mem_singleton.1 hx
        unfold Cov at *; dsimp only at *; omega
      · cases hx
    · split at hx
      · obtain rfl := List.mem_singleton.1 hx
        unfold Cov at *; dsimp only at *; omega
      · cases hx
  · rintro ⟨hc, hn⟩
    by_cases c : i < e.1
    · refine ⟨(h.1, e.1 - h.1), List.mem_append.2 (.inl ?_), ?_⟩
      · rw [if_pos (by unfold Cov at hc; omega)]; exact List.mem_singleton.2 rfl
      · unfold Cov at *; dsimp only; omega
    · refine ⟨(e.1 + e.2, h.1 + h.2 - (e.1 + e.2)), List.mem_append.2 (.inr ?_), ?_⟩
      · rw [if_pos (by unfold Cov at *; omega)]; exact List.mem_singleton.2 rfl
      · unfold Cov at *; dsimp only; omega
theorem sep_rest {h e : Ext} (he : 1 ≤ e.2) : (rest h e).Pairwise Gap := by
  unfold rest
  refine List.pairwise_append.2 ⟨by split <;> simp, by split <;> simp, fun x hx y hy => ?_⟩
  split at hx
  · obtain rfl := List.mem_singleton.1 hx
    split at hy
    · obtain rfl := List.mem_singleton.1 hy
      unfold Gap; dsimp only; omega
    · cases hy
  · cases hx
theorem Is.cut {A B : List Ext} {h e : Ext} {F : Int → Prop} {n : Int} (q : Is (A ++ h :: B) F n) (he : 1 ≤ e.2) (h1 : h.1 ≤ e.1) (h2 : e.1 + e.2 ≤ h.1 + h.2) : Is (A ++ rest h e ++ B) (fun i => F i ∧ ¬ Cov e i) n := by
  obtain ⟨sA, sB, sAB⟩ := List.pairwise_append.1 q.sep
  obtain ⟨sh, sB⟩ := List.pairwise_cons.1 sB
  have hh := q.pos h (by simp)
  refine ⟨List.pairwise_append.2 ⟨List.pairwise_append.2 ⟨sA, sep_rest he, fun x hx y hy => ?_⟩, sB, fun x hx y hy => ?_⟩, fun x hx => ?_, fun i => ?_⟩
  · have a := sAB x hx h (by simp)
    have b := mem_rest hy he h1 h2
    unfold Gap at *; omega
  · rcases List.mem_append.1 hx with hx | hx
    · exact sAB x hx y (List.mem_cons_of_mem _ hy)
    · have a := sh y hy
      have b := mem_rest hx he h1 h2
      unfold Gap at *; omega
  · rcases List.mem_append.1 hx with hx | hx
    · rcases List.mem_append.1 hx with hx | hx
      · exact q.pos x (by simp [hx])
      · have b := mem_rest hx he h1 h2
        omega
    · exact q.pos x (by simp [hx])
  · rw [q.cov]
    have hr := cov_rest (i := i) he h1 h2
    constructor
    · rintro ⟨⟨x, hx, hc⟩, hn⟩
      rcases List.mem_append.1 hx with hx | hx
      · exact ⟨x, by simp [hx], hc⟩
      · rcases List.mem_cons.1 hx with rfl | hx
        · obtain ⟨y, hy, hc⟩ := hr.2 ⟨hc, hn⟩
          exact ⟨y, by simp [hy], hc⟩
        · exact ⟨x, by simp [hx], hc⟩
    · rintro ⟨x, hx, hc⟩
      rcases List.mem_append.1 hx with hx | hx
      · rcases List.mem_append.1 hx with hx | hx
        · have a := sAB x hx h (by simp)
          exact ⟨⟨x, by simp [hx], hc⟩, by unfold Gap at a; unfold Cov at *; omega⟩
        · obtain ⟨a, b⟩ := hr.1 ⟨x, hx, hc⟩
          exact ⟨⟨h, by simp, a⟩, b⟩
      · have a := sh x hx
        exact ⟨⟨x, by simp [hx], hc⟩, by unfold Gap at a; unfold Cov at *; omega⟩
/-- an extent that is put between two parts of the holes, beside neither -/
theorem Is.put {A B : List Ext} {e : Ext} {F : Int → Prop} {n : Int} (q : Is (A ++ B) F n) (he : 1 ≤ e.2) (h0 : 0 ≤ e.1) (hn : e.1 + e.2 ≤ n) (ha : ∀ x, x ∈ A → Gap x e) (hb : ∀ x, x ∈ B → Gap e x) : Is (A ++ [e] ++ B) (fun i => F i ∨ Cov e i) n := by
  obtain ⟨sA, sB, sAB⟩ := List.pairwise_append.1 q.sep
  refine ⟨List.pairwise_append.2 ⟨List.pairwise_append.2 ⟨sA, by simp, fun x hx y hy => by rw [List.mem_singleton.1 hy]; exact ha x hx⟩, sB, fun x hx y hy => ?_⟩, fun x hx => ?_, fun i => ?_⟩
  · rcases List.mem_append.1 hx with hx | hx
    · exact sAB x hx y hy
    · rw [List.mem_singleton.1 hx]; exact hb y hy
  · rcases List.mem_append.1 hx with hx | hx
    · rcases List.mem_append.1 hx with hx | hx
      · exact q.pos x (by simp [hx])
      · rw [List.mem_singleton.1 hx]; exact ⟨he, h0, hn⟩
    · exact q.pos x (by simp [hx])
  · rw [q.cov]
    constructor
    · rintro (⟨x, hx, hc⟩ | hc)
      · refine ⟨x, ?_, hc⟩
        rcases List.mem_append.1 hx with hx | hx <;> simp [hx]
      · exact ⟨e, by simp, hc⟩
    · rintro ⟨x, hx, hc⟩
      rcases List.mem_append.1 hx with hx | hx
      · rcases List.mem_append.1 hx with hx | hx
        · exact .inl ⟨x, by simp [hx], hc⟩
        · rw [List.mem_singleton.1 hx] at hc; exact .inr hc
      · exact .inl ⟨x, by simp [hx], hc⟩
/-- a hole taken away whole -/
theorem Is.drop {A B : List Ext} {h : Ext} {F : Int → Prop} {n : Int} (q : Is (A ++ h :: B) F n) : Is (A ++ B) (fun i => F i ∧ ¬ Cov h i) n := by
  have hh := q.pos h (by simp)
  have r := q.cut (e := h) hh.1 (Int.le_refl _) (Int.le_refl _)
  have e : rest h h = [] := by unfold rest; rw [if_neg (by omega), if_neg (by omega)]; rfl
  rw [e, List.append_nil] at r
  exact r
/-- an interval that is free lies within one hole -/
theorem Is.within {hs : List Ext} {F : Int → Prop} {n : Int} (q : Is hs F n) {a c : Int} (hc : 1 ≤ c) (hF : ∀ i, a ≤ i → i < a + c → F i) : ∃ k : Nat, ∃ hk : k < hs.length, hs[k].1 ≤ a ∧ a + c ≤ hs[k].1 + hs[k].2 := by
  obtain ⟨h, hh, h1⟩ := (q.cov a).1 (hF a (Int.le_refl _) (by omega))
  obtain ⟨k, hk, rfl⟩ := List.getElem_of_mem hh
  refine ⟨k, hk, h1.1, Classical.byContradiction fun hn => ?_⟩
  have hp := q.pos _ hh
  unfold Cov at h1
  obtain ⟨g, hg, g1⟩ := (q.cov (hs[k].1 + hs[k].2)).1 (hF _ (by omega) (by omega))
  obtain ⟨j, hj, rfl⟩ := List.getElem_of_mem hg
  have hq := q.pos _ hg
  unfold Cov at g1
  rcases Nat.lt_trichotomy j k with c | rfl | c
  · have := List.pairwise_iff_getElem.1 q.sep j k hj hk c
    unfold Gap at this; omega
  · omega
  · have := List.pairwise_iff_getElem.1 q.sep k j hk hj c
    unfold Gap at this; omega
theorem Is.holds {hs : List Ext} {F : Int → Prop} {n : Int} (q : Is hs F n) {k : Nat} (hk : k < hs.length) {a c : Int} (h1 : hs[k].1 ≤ a) (h2 : a + c ≤ hs[k].1 + hs[k].2) : ∀ i, a ≤ i → i < a + c → F i := fun i hi hj => (q.cov i).2 ⟨hs[k], List.getElem_mem hk, by unfold Cov; omega⟩
theorem Is.range {hs : List Ext} {F : Int → Prop} {n : Int} (q : Is hs F n) {i : Int} (h : F i) : 0 ≤ i ∧ i < n := by
  obtain ⟨x, hx, hc⟩ := (q.cov i).1 h
  have := q.pos x hx
  unfold Cov at hc; omega
/-- holes with a number below another's lie before it -/
theorem Is.before {hs : List Ext} {F : Int → Prop} {n : Int} (q : Is hs F n) {j k : Nat} (hj : j < hs.length) (hk : k < hs.length) (h : j < k) : hs[j].1 + hs[j].2 < hs[k].1 := List.pairwise_iff_getElem.1 q.sep j k hj hk h
/-- an extent that is to be free, between the holes before it and those behind it -/
structure Fr (A B : List Ext) (e : Ext) (F : Int → Prop) (n : Int) : Prop where
  is : Is (A ++ B) F n
  one : 1 ≤ e.2
  lo : 0 ≤ e.1
  hi : e.1 + e.2 ≤ n
  no : ∀ i, Cov e i → ¬ F i
  la : ∀ x, x ∈ A → x.1 + x.2 ≤ e.1
  lb : ∀ x, x ∈ B → e.1 + e.2 ≤ x.1
theorem Fr.of {A B : List Ext} {e : Ext} {F : Int → Prop} {n : Int} (q : Is (A ++ B) F n) (h1 : 1 ≤ e.2) (h2 : 0 ≤ e.1) (h3 : e.1 + e.2 ≤ n) (h4 : ∀ i, Cov e i → ¬ F i) (ha : ∀ x, x ∈ A → x.1 ≤ e.1) (hb : ∀ x, x ∈ B → e.1 < x.1) : Fr A B e F n := by
  refine ⟨q, h1, h2, h3, h4, fun x hx => ?_, fun x hx => ?_⟩
  · have hp := q.pos x (by simp [hx])
    have := ha x hx
    refine Classical.byContradiction fun hn => h4 e.1 (by unfold Cov; omega) ((q.cov _).2 ⟨x, by simp [hx], by unfold Cov; omega⟩)
  · have hp := q.pos x (by simp [hx])
    have := hb x hx
    refine Classical.byContradiction fun hn => h4 x.1 (by unfold Cov; omega) ((q.cov _).2 ⟨x, by simp [hx], by unfold Cov; omega⟩)
theorem Fr.done {A B : List Ext} {e : Ext} {F : Int → Prop} {n : Int} (q : Fr A B e F n) (ha : ∀ x, x ∈ A → Gap x e) (hb : ∀ x, x ∈ B → Gap e x) : Is (A ++ [e] ++ B) (fun i => F i ∨ Cov e i) n := q.is.put q.one q.lo q.hi ha hb
theorem Fr.left {A B : List Ext} {a e : Ext} {F : Int → Prop} {n : Int} (q : Fr (A ++ [a]) B e F n) (h : a.1 + a.2 = e.1) : Fr A B (a.1, a.2 + e.2) (fun i => F i ∧ ¬ Cov a i) n ∧ (∀ x, x ∈ A → Gap x (a.1, a.2 + e.2)) ∧ ∀ i, ((F i ∧ ¬ Cov a i) ∨ Cov (a.1, a.2 + e.2) i) ↔ (F i ∨ Cov e i) := by
  have hi := q.is
  rw [List.append_assoc] at hi
  have hp := hi.pos a (by simp)
  have ha : ∀ x, x ∈ A → x.1 + x.2 < a.1 := fun x hx => (List.pairwise_append.1 hi.sep).2.2 x hx a (by simp)
  have h1 := q.one; have h3 := q.hi
  refine ⟨⟨hi.drop, by dsimp only; omega, hp.2.1, by dsimp only; omega, fun i hc => ?_, fun x hx => ?_, fun x hx => ?_⟩, fun x hx => ha x hx, fun i => ?_⟩
  · rintro ⟨hF, hn⟩
    exact q.no i (by unfold Cov at *; dsimp only at hc; omega) hF
  · have := ha x hx; dsimp only; omega
  · have := q.lb x hx; dsimp only; omega
  · have hF : Cov a i → F i := fun hc => (hi.cov i).2 ⟨a, by simp, hc⟩
    constructor
    · rintro (⟨hf, _⟩ | hc)
      · exact .inl hf
      · by_cases c : Cov a i
        · exact .inl (hF c)
        · exact .inr (by unfold Cov at *; dsimp only at hc; omega)
    · rintro (hf | hc)
      · by_cases c : Cov a i
        · exact .inr (by unfold Cov at *; dsimp only; omega)
        · exact .inl ⟨hf, c⟩
      · exact .inr (by unfold Cov at *; dsimp only; omega)
theorem Fr.right {A B : List Ext} {b e : Ext} {F : Int → Prop} {n : Int} (q : Fr A (b :: B) e F n) (h : e.1 + e.2 = b.1) : Fr A B (e.1, e.2 + b.2) (fun i => F i ∧ ¬ Cov b i) n ∧ (∀ x, x ∈ B → Gap (e.1, e.2 + b.2) x) ∧ ∀ i, ((F i ∧ ¬ Cov b i) ∨ Cov (e.1, e.2 + b.2) i) ↔ (F i ∨ Cov e i) := by
  have hi := q.is
  have hp := hi.pos b (by simp)
  have hb : ∀ x, x ∈ B → b.1 + b.2 < x.1 := fun x hx => (List.pairwise_cons.1 (List.pairwise_append.1 hi.sep).2.1).1 x hx
  have h1 := q.one; have h3 := q.hi; have h2 := q.lo
  refine ⟨⟨hi.drop, by dsimp only; omega, h2, by dsimp only; omega, fun i hc => ?_, fun x hx => ?_, fun x hx => ?_⟩, fun x hx => ?_, fun i => ?_⟩
  · rintro ⟨hF, hn⟩
    exact q.no i (by unfold Cov at *; dsimp only at hc; omega) hF
  · exact q.la x hx
  · have := hb x hx; dsimp only; omega
  · have := hb x hx; unfold Gap; dsimp only; omega
  · have hF : Cov b i → F i := fun hc => (hi.cov i).2 ⟨b, by simp, hc⟩
    constructor
    · rintro (⟨hf, _⟩ | hc)
      · exact .inl hf
      · by_cases c : Cov b i
        · exact .inl (hF c)
        · exact .inr (by unfold Cov at *; dsimp only at hc; omega)
    · rintro (hf | hc)
      · by_cases c : Cov b i
        · exact .inr (by unfold Cov at *; dsimp only; omega)
        · exact .inl ⟨hf, c⟩
      · exact .inr (by unfold Cov at *; dsimp only; omega)
theorem Fr.gapL {A B : List Ext} {e : Ext} {F : Int → Prop} {n : Int} (q : Fr A B e F n) (h : ∀ a A', A = A' ++ [a] → a.1 + a.2 ≠ e.1) : ∀ x, x ∈ A → Gap x e := by
  rcases List.eq_nil_or_concat A with rfl | ⟨A', a, rfl⟩
  · intro x hx; cases hx
  · rw [List.concat_eq_append] at *
    have hi := q.is
    rw [List.append_assoc] at hi
    have hp := hi.pos a (by simp)
    have h1 := q.la a (by simp)
    have h2 := h a A' rfl
    intro x hx
    rcases List.mem_append.1 hx with hx | hx
    · have := (List.pairwise_append.1 hi.sep).2.2 x hx a (by simp)
      unfold Gap at *; omega
    · rw [List.mem_singleton.1 hx]; unfold Gap; omega
theorem Fr.gapR {A B : List Ext} {e : Ext} {F : Int → Prop} {n : Int} (q : Fr A B e F n) (h : ∀ b B', B = b :: B' → e.1 + e.2 ≠ b.1) : ∀ x, x ∈ B → Gap e x := by
  cases B with
  | nil => intro x hx; cases hx
  | cons b B' =>
    have hi := q.is
    have hp := hi.pos b (by simp)
    have h1 := q.lb b (by simp)
    have h2 := h b B' rfl
    intro x hx
    rcases List.mem_cons.1 hx with rfl | hx
    · unfold Gap; omega
    · have := (List.pairwise_cons.1 (List.pairwise_append.1 hi.sep).2.1).1 x hx
      unfold Gap at *; omega
/-- what Free puts: the extent, joined with the hole that ends where it begins, and with the one that begins where it ends -/
def joinL (A : List Ext) (e : Ext) : List Ext × Ext := match A.getLast? with
  | some a => if a.1 + a.2 = e.1 then (A.dropLast, (a.1, a.2 + e.2)) else (A, e)
  | none => (A, e)
def joinR (e : Ext) (B : List Ext) : Ext × List Ext := match B with
  | b :: B' => if e.1 + e.2 = b.1 then ((e.1, e.2 + b.2), B') else (e, b :: B')
  | [] => (e, [])
theorem Fr.free {A B : List Ext} {e : Ext} {F : Int → Prop} {n : Int} (q : Fr A B e F n) : Is ((joinL A e).1 ++ [(joinR (joinL A e).2 B).1] ++ (joinR (joinL A e).2 B).2) (fun i => F i ∨ Cov e i) n := by
  have hL : ∃ G, Fr (joinL A e).1 B (joinL A e).2 G n ∧ (∀ x, x ∈ (joinL A e).1 → Gap x (joinL A e).2) ∧ ∀ i, (G i ∨ Cov (joinL A e).2 i) ↔ (F i ∨ Cov e i) := by
    rcases List.eq_nil_or_concat A with rfl | ⟨A', a, rfl⟩
    · exact ⟨F, q, fun x (hx : x ∈ []) => absurd hx List.not_mem_nil, fun i => Iff.rfl⟩
    · rw [List.concat_eq_append] at *
      unfold joinL
      rw [List.getLast?_concat, List.dropLast_concat]
      dsimp only
      split
      · rename_i c
        obtain ⟨r1, r2, r3⟩ := q.left c
        exact ⟨_, r1, r2, r3⟩
      · rename_i c
        refine ⟨F, q, q.gapL fun a' A'' h => ?_, fun i => Iff.rfl⟩
        obtain ⟨_, h2⟩ := List.append_inj' h rfl
        obtain rfl := (List.cons.inj h2).1
        exact c
  obtain ⟨G, g1, g2, g3⟩ := hL
  generalize (joinL A e).1 = A2 at *
  generalize (joinL A e).2 = e2 at *
  cases B with
  | nil => exact (g1.done g2 (fun x hx => absurd hx List.not_mem_nil)).congr g3
  | cons b B' =>
    unfold joinR
    dsimp only
    split
    · rename_i c
      obtain ⟨r1, r2, r3⟩ := g1.right c
      exact (r1.done (fun x hx => g2 x hx) r2).congr fun i => (r3 i).trans (g3 i)
    · rename_i c
      exact (g1.done g2 (g1.gapR fun b' B'' h => by obtain ⟨rfl, rfl⟩ := List.cons.inj h; exact c)).congr g3
/-- block i is free -/
def Fr8 (t : List Bool) (i : Int) : Prop := 0 ≤ i ∧ i < (t.length : Int) ∧ t.getD i.toNat true = false
/-- a map with an extent taken (v), or not -/
def setR (t : List Bool) (e : Ext) (v : Bool) : List Bool := (List.range t.length).map fun (j : Nat) => if e.1 ≤ (j : Int) ∧ (j : Int) < e.1 + e.2 then v else t.getD j true
theorem setR_length (t : List Bool) (e : Ext) (v : Bool) : (setR t e v).length = t.length := by simp [setR]
theorem setR_getD (t : List Bool) (e : Ext) (v : Bool) (j : Nat) (h : j < t.length) : (setR t e v).getD j true = if e.1 ≤ (j : Int) ∧ (j : Int) < e.1 + e.2 then v else t.getD j true := by
  simp [setR, List.getD_eq_getElem?_getD, h]
theorem fr_take (t : List Bool) (e : Ext) (i : Int) : Fr8 (setR t e true) i ↔ Fr8 t i ∧ ¬ Cov e i := by
  unfold Fr8
  rw [setR_length]
  by_cases h : 0 ≤ i ∧ i < (t.length : Int)
  · rw [setR_getD t e true i.toNat (by omega), Int.toNat_of_nonneg h.1]
    unfold Cov
    by_cases c : e.1 ≤ i ∧ i < e.1 + e.2
    · rw [if_pos c]; simp [c]
    · rw [if_neg c]; simp [c]
  · constructor
    · rintro ⟨a, b, _⟩; exact absurd ⟨a, b⟩ h
    · rintro ⟨⟨a, b, _⟩, _⟩; exact absurd ⟨a, b⟩ h
theorem fr_free (t : List Bool) (e : Ext) (h1 : 0 ≤ e.1) (h2 : e.1 + e.2 ≤ (t.length : Int)) (i : Int) : Fr8 (setR t e false) i ↔ Fr8 t i ∨ Cov e i := by
  unfold Fr8
  rw [setR_length]
  by_cases h : 0 ≤ i ∧ i < (t.length : Int)
  · rw [setR_getD t e false i.toNat (by omega), Int.toNat_of_nonneg h.1]
    unfold Cov
    by_cases c : e.1 ≤ i ∧ i < e.1 + e.2
    · rw [if_pos c]; simp [c, h]
    · rw [if_neg c]; simp [c]
  · constructor
    · rintro ⟨a, b, _⟩; exact absurd ⟨a, b⟩ h
    · rintro (⟨a, b, _⟩ | c)
      · exact absurd ⟨a, b⟩ h
      · unfold Cov at c; exact absurd ⟨by omega, by omega⟩ h
/-- the holes of the first i blocks, told one behind the other as the document tells them -/
structure Upto (t : List Bool) (i : Nat) (out : List Ext) : Prop where
  is : Is out (fun j => Fr8 t j ∧ j < (i : Int)) (t.length : Int)
  last : ∀ A h, out = A ++ [h] → h.1 + h.2 ≤ (i : Int)
  beside : 0 < i → t.getD (i - 1) true = false → ∃ A h, out = A ++ [h] ∧ h.1 + h.2 = (i : Int)
  count : (out.map (·.2)).sum = (((t.take i).filter (fun b => !b)).length : Int)
theorem Upto.zero (t : List Bool) : Upto t 0 [] := ⟨⟨List.Pairwise.nil, fun h hh => absurd hh List.not_mem_nil, fun i => ⟨fun h => by have := h.1.1; have := h.2; omega, fun ⟨h, hh, _⟩ => absurd hh List.not_mem_nil⟩⟩, fun A h e => by simp at e, fun h => absurd h (Nat.lt_irrefl 0), by simp⟩
theorem sum_le_of {out : List Ext} {n : Nat} {F : Int → Prop} (q : Is out F (n : Int)) : (out.map (·.2)).sum ≤ (n : Int) ∧ 0 ≤ (out.map (·.2)).sum := by
  have key : ∀ (l : List Ext) (a : Int), l.Pairwise Gap → (∀ h, h ∈ l → 1 ≤ h.2 ∧ a ≤ h.1 ∧ h.1 + h.2 ≤ (n : Int)) → a ≤ (n : Int) → (l.map (·.2)).sum ≤ (n : Int) - a ∧ 0 ≤ (l.map (·.2)).sum := by
    intro l
    induction l with
    | nil => intro a _ _ h; simp; omega
    | cons x l ih =>
      intro a hp hb ha
      obtain ⟨p1, p2⟩ := List.pairwise_cons.1 hp
      have hx := hb x (by simp)
      have := ih (x.1 + x.2) p2 (fun h hh => by
        have h1 := hb h (List.mem_cons_of_mem _ hh)
        have h2 := p1 h hh
        unfold Gap at h2
        exact ⟨h1.1, by omega, h1.2.2⟩) hx.2.2
      simp only [List.map_cons, List.sum_cons]
      omega
  have := key out 0 q.sep (fun h hh => by have := q.pos h hh; omega) (by omega)
  omega
theorem Upto.skip {t : List Bool} {i : Nat} {out : List Ext} (u : Upto t i out) (hi : i < t.length) (h : t.getD i true = true) : Upto t (i + 1) out := by
  refine ⟨u.is.congr fun j => ?_, fun A h e => ?_, fun _ hq => ?_, ?_⟩
  · constructor
    · rintro ⟨a, b⟩; exact ⟨a, by omega⟩
    · rintro ⟨a, b⟩
      refine ⟨a, Classical.byContradiction fun c => ?_⟩
      obtain rfl : j = (i : Int) := by omega
      have := a.2.2
      rw [Int.toNat_natCast, h] at this
      cases this
  · have := u.last A h e; omega
  · rw [Nat.add_sub_cancel, h] at hq; cases hq
  · rw [u.count, List.take_succ_eq_append_getElem hi, List.filter_append]
    have : t[i] = true := by rw [← h, List.getD_eq_getElem?_getD, List.getElem?_eq_getElem hi]; rfl
    rw [this]
    simp
theorem Upto.more {t : List Bool} {i : Nat} {A : List Ext} {h : Ext} (u : Upto t i (A ++ [h])) (hi : i < t.length) (hf : t.getD i true = false) (hb : h.1 + h.2 = (i : Int)) : Upto t (i + 1) (A ++ [(h.1, h.2 + 1)]) := by
  obtain ⟨⟨sep, pos, cov⟩, last, beside, count⟩ := u
  obtain ⟨s1, s2, s3⟩ := List.pairwise_append.1 sep
  have hp := pos h (by simp)
  refine ⟨⟨List.pairwise_append.2 ⟨s1, by simp, fun x hx y hy => ?_⟩, fun x hx => ?_, fun j => ?_⟩, fun A' h' e => ?_, fun _ _ => ⟨A, _, rfl, by dsimp only; omega⟩, ?_⟩
  · rw [List.mem_singleton.1 hy]; exact s3 x hx h (by simp)
  · rcases List.mem_append.1 hx with hx | hx
    · exact pos x (by simp [hx])
    · rw [List.mem_singleton.1 hx]; dsimp only; omega
  · constructor
    · rintro ⟨a, b⟩
      by_cases c : j = (i : Int)
      · exact ⟨(h.1, h.2 + 1), by simp, by unfold Cov; dsimp only; omega⟩
      · obtain ⟨x, hx, hc⟩ := (cov j).1 ⟨a, by omega⟩
        rcases List.mem_append.1 hx with hx | hx
        · exact ⟨x, by simp [hx], hc⟩
        · rw [List.mem_singleton.1 hx] at hc
          exact ⟨(h.1, h.2 + 1), by simp, by unfold Cov at *; dsimp only; omega⟩
    · rintro ⟨x, hx, hc⟩
      rcases List.mem_append.1 hx with hx | hx
      · obtain ⟨a, b⟩ := (cov j).2 ⟨x, by simp [hx], hc⟩
        exact ⟨a, by omega⟩
      · rw [List.mem_singleton.1 hx] at hc
        unfold Cov at hc
        dsimp only at hc
        by_cases c : j = (i : Int)
        · subst c; exact ⟨⟨by omega, by omega, by rw [Int.toNat_natCast]; exact hf⟩, by omega⟩
        · obtain ⟨a, b⟩ := (cov j).2 ⟨h, by simp, by unfold Cov; omega⟩
          exact ⟨a, by omega⟩
  · obtain ⟨_, e2⟩ := List.append_inj' e rfl
    obtain rfl := (List.cons.inj e2).1
    dsimp only; omega
  · rw [List.take_succ_eq_append_getElem hi, List.filter_append]
    have : t[i] = false := by rw [← hf, List.getD_eq_getElem?_getD, List.getElem?_eq_getElem hi]; rfl
    rw [this]
    simp only [List.map_append, List.sum_append, List.map_cons, List.map_nil, List.sum_cons, List.sum_nil] at count ⊢
    simp
    omega
theorem Upto.new {t : List Bool} {i : Nat} {out : List Ext} (u : Upto t i out) (hi : i < t.length) (hf : t.getD i true = false) (hb : i = 0 ∨ t.getD (i - 1) true = true) : Upto t (i + 1) (out ++ [((i : Int), 1)]) := by
  have hlast : ∀ x, x ∈ out → x.1 + x.2 < (i : Int) := by
    intro x hx
    have hp := u.is.pos x hx
    have hF := (u.is.cov (x.1 + x.2 - 1)).2 ⟨x, hx, by unfold Cov; omega⟩
    refine Classical.byContradiction fun hn => ?_
    have e : x.1 + x.2 - 1 = ((i - 1 : Nat) : Int) := by omega
    rcases hb with rfl | hb
    · have := hF.2; omega
    · have h3 := hF.1.2.2
      rw [e, Int.toNat_natCast, hb] at h3
      cases h3
  refine ⟨⟨List.pairwise_append.2 ⟨u.is.sep, by simp, fun x hx y hy => by rw [List.mem_singleton.1 hy]; exact hlast x hx⟩, fun x hx => ?_, fun j => ?_⟩, fun A' h' e => ?_, fun _ _ => ⟨out, _, rfl, by dsimp only; omega⟩, ?_⟩
  · rcases List.mem_append.1 hx with hx | hx
    · exact u.is.pos x hx
    · rw [List.mem_singleton.1 hx]; dsimp only; omega
  · constructor
    · rintro ⟨a, b⟩
      by_cases c : j = (i : Int)
      · exact ⟨((i : Int), 1), by simp, by unfold Cov; dsimp only; omega⟩
      · obtain ⟨x, hx, hc⟩ := (u.is.cov j).1 ⟨a, by omega⟩
        exact ⟨x, by simp [hx], hc⟩
    · rintro ⟨x, hx, hc⟩
      rcases List.mem_append.1 hx with hx | hx
      · obtain ⟨a, b⟩ := (u.is.cov j).2 ⟨x, hx, hc⟩
        exact ⟨a, by omega⟩
      · rw [List.mem_singleton.1 hx] at hc
        unfold Cov at hc
        dsimp only at hc
        obtain rfl : j = (i : Int) := by omega
        exact ⟨⟨by omega, by omega, by rw [Int.toNat_natCast]; exact hf⟩, by omega⟩
  · obtain ⟨_, e2⟩ := List.append_inj' e rfl
    obtain rfl := (List.cons.inj e2).1
    dsimp only; omega
  · rw [List.take_succ_eq_append_getElem hi, List.filter_append]
    have : t[i] = false := by rw [← hf, List.getD_eq_getElem?_getD, List.getElem?_eq_getElem hi]; rfl
    rw [this]
    have hc := u.count
    simp only [List.map_append, List.sum_append, List.map_cons, List.map_nil, List.sum_cons, List.sum_nil]
    simp
    omega
theorem Upto.end {t : List Bool} {out : List Ext} (u : Upto t t.length out) : Is out (Fr8 t) (t.length : Int) ∧ (out.map (·.2)).sum = ((t.filter (fun b => !b)).length : Int) := by
  refine ⟨u.is.congr fun i => ⟨fun h => h.1, fun h => ⟨h, h.2.1⟩⟩, ?_⟩
  have := u.count
  rwa [List.take_length] at this
theorem split_at {α : Type} (l : List α) (k : Nat) (h : k < l.length) : l.take k ++ l[k] :: l.drop (k + 1) = l := by
  rw [← List.drop_eq_getElem_cons h, List.take_append_drop]
theorem Is.cut_at {hs : List Ext} {F : Int → Prop} {n : Int} (q : Is hs F n) {k : Nat} (hk : k < hs.length) {e : Ext} (he : 1 ≤ e.2) (h1 : hs[k].1 ≤ e.1) (h2 : e.1 + e.2 ≤ hs[k].1 + hs[k].2) :
    Is (hs.take k ++ rest hs[k] e ++ hs.drop (k + 1)) (fun i => F i ∧ ¬ Cov e i) n := by
  have q' : Is (hs.take k ++ hs[k] :: hs.drop (k + 1)) F n := by rw [split_at hs k hk]; exact q
  exact q'.cut he h1 h2
/-- the first hole that is long enough begins where the first blocks in a row are free -/
theorem Is.first {hs : List Ext} {F : Int → Prop} {n : Int} (q : Is hs F n) {k : Nat} (hk : k < hs.length) {c : Int} (hc : 1 ≤ c) (hb : ∀ j (hj : j < hs.length), j < k → hs[j].2 < c) (i : Int) (hi : i < hs[k].1) : ¬ ∀ x, i ≤ x → x < i + c → F x := by
  intro h
  obtain ⟨j, hj, a, b⟩ := q.within hc h
  rcases Nat.lt_trichotomy j k with d | rfl | d
  · have := hb j hj d; omega
  · omega
  · have := q.before hk hj d
    have := q.pos _ (List.getElem_mem hk)
    omega
theorem Is.none {hs : List Ext} {F : Int → Prop} {n : Int} (q : Is hs F n) {c : Int} (hc : 1 ≤ c) (hb : ∀ h, h ∈ hs → h.2 < c) (i : Int) : ¬ ∀ x, i ≤ x → x < i + c → F x := by
  intro h
  obtain ⟨j, hj, a, b⟩ := q.within hc h
  have := hb _ (List.getElem_mem hj)
  omega
theorem Is.take_none {hs : List Ext} {F : Int → Prop} {n : Int} (q : Is hs F n) {e : Ext} (he : 1 ≤ e.2) (hb : ∀ h, h ∈ hs → ¬ (h.1 ≤ e.1 ∧ e.1 + e.2 ≤ h.1 + h.2)) : ¬ ∀ x, Cov e x → F x := by
  intro h
  obtain ⟨j, hj, a, b⟩ := q.within (a := e.1) he (fun x h1 h2 => h x ⟨h1, h2⟩)
  exact hb _ (List.getElem_mem hj) ⟨a, b⟩
theorem Is.take_some {hs : List Ext} {F : Int → Prop} {n : Int} (q : Is hs F n) {k : Nat} (hk : k < hs.length) {e : Ext} (h : hs[k].1 ≤ e.1 ∧ e.1 + e.2 ≤ hs[k].1 + hs[k].2) : ∀ x, Cov e x → F x := fun x hx => q.holds hk h.1 h.2 x hx.1 hx.2
theorem Is.over {hs : List Ext} {F : Int → Prop} {n : Int} (q : Is hs F n) {e : Ext} (he : 1 ≤ e.2) : (∃ h, h ∈ hs ∧ h.1 < e.1 + e.2 ∧ e.1 < h.1 + h.2) ↔ ∃ x, Cov e x ∧ F x := by
  constructor
  · rintro ⟨h, hh, a, b⟩
    have hp := q.pos h hh
    by_cases c : h.1 ≤ e.1
    · exact ⟨e.1, by unfold Cov; omega, (q.cov _).2 ⟨h, hh, by unfold Cov; omega⟩⟩
    · exact ⟨h.1, by unfold Cov; omega, (q.cov _).2 ⟨h, hh, by unfold Cov; omega⟩⟩
  · rintro ⟨x, hx, hF⟩
    obtain ⟨h, hh, hc⟩ := (q.cov x).1 hF
    exact ⟨h, hh, by unfold Cov at *; omega, by unfold Cov at *; omega⟩
/-- what Free does, by places: from, to, and the extent that is put -/
def fromK (hs : List Ext) (k : Nat) (e : Ext) : Nat × Ext := if h : 0 < k ∧ k ≤ hs.length then if (hs[k - 1]'(by omega)).1 + (hs[k - 1]'(by omega)).2 = e.1 then (k - 1, ((hs[k - 1]'(by omega)).1, (hs[k - 1]'(by omega)).2 + e.2)) else (k, e) else (k, e)
def toK (hs : List Ext) (k : Nat) (e : Ext) : Nat × Ext := if h : k < hs.length then if e.1 + e.2 = hs[k].1 then (k + 1, (e.1, e.2 + hs[k].2)) else (k, e) else (k, e)
def freeK (hs : List Ext) (k : Nat) (e : Ext) : List Ext := hs.take (fromK hs k e).1 ++ [(toK hs k (fromK hs k e).2).2] ++ hs.drop (toK hs k (fromK hs k e).2).1
theorem Is.free_at {hs : List Ext} {F : Int → Prop} {n : Int} (q : Is hs F n) {k : Nat} (hk : k ≤ hs.length) {e : Ext} (h1 : 1 ≤ e.2) (h2 : 0 ≤ e.1) (h3 : e.1 + e.2 ≤ n) (h4 : ∀ i, Cov e i → ¬ F i)
    (ha : ∀ j (hj : j < hs.length), j < k → hs[j].1 ≤ e.1) (hb : ∀ j (hj : j < hs.length), k ≤ j → e.1 < hs[j].1) : Is (freeK hs k e) (fun i => F i ∨ Cov e i) n := by
  have q' : Is (hs.take k ++ hs.drop k) F n := by rw [List.take_append_drop]; exact q
  have fr := (Fr.of q' h1 h2 h3 h4 (fun x hx => by
    obtain ⟨j, hj, rfl⟩ := List.mem_take_iff_getElem.1 hx
    exact ha j (by omega) (by omega)) (fun x hx => by
    obtain ⟨j, hj, rfl⟩ := List.getElem_of_mem hx
    rw [List.length_drop] at hj
    rw [List.getElem_drop]
    exact hb (k + j) (by omega) (by omega))).free
  have eL : (joinL (hs.take k) e).1 = hs.take (fromK hs k e).1 ∧ (joinL (hs.take k) e).2 = (fromK hs k e).2 := by
    unfold joinL fromK
    by_cases c : 0 < k
    · have hl : (hs.take k).getLast? = some (hs[k - 1]'(by omega)) := by
        rw [List.getLast?_eq_getElem?, List.length_take, Nat.min_eq_left hk, List.getElem?_take, if_pos (by omega), List.getElem?_eq_getElem (by omega)]
      rw [hl, dif_pos ⟨c, hk⟩]
      dsimp only
      split
      · refine ⟨?_, rfl⟩
        rw [List.dropLast_eq_take, List.length_take, Nat.min_eq_left hk, List.take_take, Nat.min_eq_left (by omega)]
      · exact ⟨rfl, rfl⟩
    · obtain rfl : k = 0 := by omega
      rw [dif_neg (by omega), List.take_zero]
      exact ⟨rfl, rfl⟩
  have eR : ∀ e : Ext, (joinR e (hs.drop k)).1 = (toK hs k e).2 ∧ (joinR e (hs.drop k)).2 = hs.drop (toK hs k e).1 := fun e => by
    unfold joinR toK
    by_cases c : k < hs.length
    · rw [dif_pos c, List.drop_eq_getElem_cons c]
      dsimp only
      split
      · exact ⟨rfl, rfl⟩
      · exact ⟨rfl, (List.drop_eq_getElem_cons c).symm⟩
    · rw [dif_neg c, List.drop_eq_nil_of_le (by omega)]
      exact ⟨rfl, rfl⟩
  rw [eL.1, eL.2, (eR _).1, (eR _).2] at fr
  exact fr
/-- a hole's end lies below n, its length is at most n -/
theorem Is.small {hs : List Ext} {F : Int → Prop} {n : Int} (q : Is hs F n) (hn : 0 ≤ n) : ∀ (A B : List Ext), hs = A ++ B → ∀ a : Int, (∀ h, h ∈ B → a ≤ h.1) → (B.length : Int) ≤ n - a ∨ B = []
  | A, [], _, a, _ => .inr rfl
  | A, h :: B, e, a, ha => by
    left
    have hp := q.pos h (by rw [e]; simp)
    have h1 := ha h (by simp)
    have hs' := q.sep
    rw [e] at hs'
    have hB := (List.pairwise_cons.1 (List.pairwise_append.1 hs').2.1).1
    rcases Is.small q hn (A ++ [h]) B (by rw [e]; simp) (h.1 + h.2) (fun x hx => by have := hB x hx; unfold Gap at this; omega) with r | r
    · simp only [List.length_cons]; omega
    · rw [r]; simp; omega
theorem Is.length_le {hs : List Ext} {F : Int → Prop} {n : Int} (q : Is hs F n) (hn : 0 ≤ n) : (hs.length : Int) ≤ n := by
  rcases q.small hn [] hs rfl 0 (fun h hh => (q.pos h hh).2.1) with r | r
  · omega
  · rw [r]; simpa using hn
end Go.Proofs.Ytdchljjhajbehaa.Holes
