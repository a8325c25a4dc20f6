-- Functions and laws: texts of the session's own and of the kit's print program, joined; what nothing names is left out.
import Derived.Test.YtfohecpfenegkaaKW
import Derived.Test.YtfohecpfenegkaaKA
import Derived.Test.YtfohecpfenegkaaKC
import Derived.Sort.Walk0
import Derived.Test.YtfohecpfenegkaaKB
section
set_option linter.unusedVariables false
set_option linter.unusedSimpArgs false
namespace Go.Proofs.YtfohecpfenegkaaW.PrintWords
open Go.RowKit Go.Proofs.YtfohecpfenegkaaW.PrintMore
theorem obind {α β : Type} {x : Option α} {v : α} {g : α → Option β} {r : Option β} (h : x = some v) (h2 : g v = r) : x.bind g = r := by rw [h]; exact h2
/-! ### enough rounds -/
theorem Ev.call {α β : Type} {x : Option α} {v : α} {f : Nat → α → Option β} {r : β} (h : x = some v) (k : Ev (fun n => f n v) r) : Ev (fun n => x.bind (f n)) r := by
  subst h; exact k
theorem Ev.yes {α : Type} {c : Prop} [Decidable c] {x y : Nat → Option α} {r : α} (h : c) (k : Ev x r) : Ev (fun n => if c then x n else y n) r :=
  Ev.congr (fun n => if_pos h) k
theorem Ev.no {α : Type} {c : Prop} [Decidable c] {x y : Nat → Option α} {r : α} (h : ¬ c) (k : Ev y r) : Ev (fun n => if c then x n else y n) r :=
  Ev.congr (fun n => if_neg h) k
def InU (a : Int) : Prop := 0 ≤ a ∧ a ≤ 18446744073709551615
def B (a : Int) : BitVec 64 := BitVec.ofInt 64 a
theorem u64_wrap (x : Int) : IntKind.u64.wrap x = x % 18446744073709551616 := by simp [IntKind.wrap, IntKind.bits, IntKind.signed]
theorem u64_id {a : Int} (h : InU a) : IntKind.u64.wrap a = a := by unfold InU at h; rw [u64_wrap]; omega
end Go.Proofs.YtfohecpfenegkaaW.PrintWords
end
section
set_option linter.unusedVariables false
set_option linter.unusedSimpArgs false
namespace Go.Proofs.Ytfohecpfenegkaa.Print
structure SO {α : Type} (lt : α → α → Prop) : Prop where
  irr : ∀ a, ¬ lt a a
  tr : ∀ {a b c}, lt a b → lt b c → lt a c
  tri : ∀ {a b}, ¬ lt a b → ¬ lt b a → a = b
section
variable {α : Type} {lt : α → α → Prop}
theorem rise_ext (S : SO lt) : ∀ (a b : List α), a.Pairwise lt → b.Pairwise lt → (∀ x, x ∈ a ↔ x ∈ b) → a = b
  | [], [], _, _, _ => rfl
  | [], y :: b, _, _, h => absurd ((h y).2 (by simp)) (by simp)
  | x :: a, [], _, _, h => absurd ((h x).1 (by simp)) (by simp)
  | x :: a, y :: b, ha, hb, h => by
    obtain ⟨ha1, ha2⟩ := List.pairwise_cons.1 ha
    obtain ⟨hb1, hb2⟩ := List.pairwise_cons.1 hb
    have e : x = y := by
      rcases List.mem_cons.1 ((h x).1 (by simp)) with e | h1
      · exact e
      rcases List.mem_cons.1 ((h y).2 (by simp)) with e | h2
      · exact e.symm
      exact absurd (S.tr (hb1 x h1) (ha1 y h2)) (S.irr _)
    subst e
    rw [rise_ext S a b ha2 hb2 (fun z => ?_)]
    constructor
    · intro hz
      rcases List.mem_cons.1 ((h z).1 (List.mem_cons_of_mem _ hz)) with e | h1
      · exact absurd (ha1 z hz) (by rw [e]; exact S.irr _)
      · exact h1
    · intro hz
      rcases List.mem_cons.1 ((h z).2 (List.mem_cons_of_mem _ hz)) with e | h1
      · exact absurd (hb1 z hz) (by rw [e]; exact S.irr _)
      · exact h1
theorem rise_lt {d : List α} (h : d.Pairwise lt) {i j : Nat} (hi : i < d.length) (hj : j < d.length) (hij : i < j) : lt d[i] d[j] := List.pairwise_iff_getElem.1 h i j hi hj hij
theorem rise_lt_iff (S : SO lt) {d : List α} (h : d.Pairwise lt) {i j : Nat} (hi : i < d.length) (hj : j < d.length) : lt d[i] d[j] ↔ i < j := by
  constructor
  · intro hl
    rcases Nat.lt_trichotomy i j with c | c | c
    · exact c
    · subst c; exact absurd hl (S.irr _)
    · exact absurd (S.tr hl (rise_lt h hj hi c)) (S.irr _)
  · exact rise_lt h hi hj
theorem rise_eq_iff (S : SO lt) {d : List α} (h : d.Pairwise lt) {i j : Nat} (hi : i < d.length) (hj : j < d.length) : d[i] = d[j] ↔ i = j := by
  constructor
  · intro e
    rcases Nat.lt_trichotomy i j with c | c | c
    · exact absurd (rise_lt h hi hj c) (by rw [e]; exact S.irr _)
    · exact c
    · exact absurd (rise_lt h hj hi c) (by rw [e]; exact S.irr _)
  · rintro rfl; rfl
def IsOf (lt : α → α → Prop) (l d : List α) (p : List Int) : Prop := d.Pairwise lt ∧ (∀ x, x ∈ d ↔ x ∈ l) ∧ p.length = l.length ∧ ∀ i (hi : i < l.length), ∃ k : Nat, ∃ hk : k < d.length, p[i]? = some (k : Int) ∧ d[k] = l[i]
theorem IsOf.uniq (S : SO lt) {l d d' : List α} {p p' : List Int} (h : IsOf lt l d p) (h' : IsOf lt l d' p') : d = d' ∧ p = p' := by
  have e : d = d' := rise_ext S d d' h.1 h'.1 (fun x => (h.2.1 x).trans (h'.2.1 x).symm)
  subst e
  refine ⟨rfl, ?_⟩
  apply List.ext_getElem?
  intro i
  by_cases hi : i < l.length
  · obtain ⟨k, hk, h1, h2⟩ := h.2.2.2 i hi
    obtain ⟨k', hk', h1', h2'⟩ := h'.2.2.2 i hi
    rw [h1, h1', (rise_eq_iff S h.1 hk hk').1 (h2.trans h2'.symm)]
  · rw [List.getElem?_eq_none (by rw [h.2.2.1]; omega), List.getElem?_eq_none (by rw [h'.2.2.1]; omega)]
def KP (lt : α → α → Prop) (l K : List α) (j : Nat) : Prop := K.Pairwise lt ∧ (∀ x, x ∈ K ↔ x ∈ l.take j) ∧ ∀ h : j - 1 < l.length, 0 < j → ∃ A, K = A ++ [l[j - 1]]
theorem KP.one {l : List α} (h : 0 < l.length) : KP lt l (l.take 1) 1 := by
  obtain ⟨x, m, rfl⟩ : ∃ x m, l = x :: m := by
    cases l with
    | nil => simp at h
    | cons x m => exact ⟨x, m, rfl⟩
  exact ⟨by simp, fun y => Iff.rfl, fun _ _ => ⟨[], by simp⟩⟩
theorem KP.same {l K : List α} {j : Nat} (h : KP lt l K (j + 1)) (hj : j + 1 < l.length) (e : l[j + 1] = l[j]) : KP lt l K (j + 2) := by
  obtain ⟨h1, h2, h3⟩ := h
  refine ⟨h1, fun x => ?_, fun h4 _ => ?_⟩
  · rw [h2, List.take_succ_eq_append_getElem hj, List.mem_append, List.mem_singleton]
    constructor
    · exact .inl
    · rintro (h | rfl)
      · exact h
      · rw [e]; exact List.mem_take_iff_getElem.2 ⟨j, by omega, rfl⟩
  · obtain ⟨A, hA⟩ := h3 (by omega) (by omega)
    exact ⟨A, by rw [hA]; simp only [Nat.add_sub_cancel, show j + 2 - 1 = j + 1 by omega]; rw [e]⟩
theorem KP.more (S : SO lt) {l K : List α} {j : Nat} (hs : l.Pairwise (fun a b => ¬ lt b a)) (h : KP lt l K (j + 1)) (hj : j + 1 < l.length) (e : ¬ l[j + 1] = l[j]) : KP lt l (K ++ [l[j + 1]]) (j + 2) := by
  obtain ⟨h1, h2, h3⟩ := h
  have hlt : lt l[j] l[j + 1] := Classical.byContradiction fun hn => e (S.tri (List.pairwise_iff_getElem.1 hs j (j + 1) (by omega) hj (by omega)) hn)
  obtain ⟨A, hA⟩ := h3 (by omega) (by omega)
  simp only [Nat.add_sub_cancel] at hA
  refine ⟨List.pairwise_append.2 ⟨h1, by simp, fun x hx y hy => ?_⟩, fun x => ?_, fun h4 _ => ⟨K, rfl⟩⟩
  · obtain rfl := List.mem_singleton.1 hy
    rw [hA] at hx h1
    rcases List.mem_append.1 hx with h | h
    · exact S.tr ((List.pairwise_append.1 h1).2.2 x h _ (List.mem_singleton.2 rfl)) hlt
    · rw [List.mem_singleton.1 h]; exact hlt
  · rw [List.take_succ_eq_append_getElem hj, List.mem_append, List.mem_append, h2]
end
end Go.Proofs.Ytfohecpfenegkaa.Print
end
section
set_option linter.unusedVariables false
set_option linter.unusedSimpArgs false
namespace Go.Proofs.Ytfohecpfenegkaa.Print
open Go.RowKit Go.Proofs.YtfohecpfenegkaaW.PrintWords Go.Proofs.YtfohecpfenegkaaW.PrintMore
theorem bytes_inj {a b : ByteArray} (h : a.toList = b.toList) : a = b := by
  rw [Lib.toList_data, Lib.toList_data] at h
  exact ByteArray.ext (Array.toList_inj.1 h)
theorem dict_mid (lo hi : Nat) (h : hi ≤ 4398046511104) (hl : lo < hi) : wrap64 ((IntKind.u64.wrap (wrap64 ((lo : Int) + (hi : Int)))) / 2) = (((lo + hi) / 2 : Nat) : Int) := by
  have e : wrap64 ((lo : Int) + (hi : Int)) = ((lo + hi : Nat) : Int) := by unfold wrap64; omega
  rw [e, u64_id (by unfold InU; omega)]
  unfold wrap64; omega
def ltstring (a b : ByteArray) : Prop := a.toList < b.toList
theorem sostring : SO ltstring where
  irr := fun a => List.lt_irrefl _
  tr := fun h1 h2 => List.lt_trans h1 h2
  tri := fun {a b} h1 h2 => bytes_inj (List.le_antisymm (List.not_lt.1 h2) (List.not_lt.1 h1))
theorem ltstring_dec (a b : ByteArray) : cmp_Less_string.f a b = some (decide (a.toList < b.toList)) := by
  simp [cmp_Less_string.f, cmp_isNaN_string.f, Go.Proofs.bytesLess_eq]
theorem kpstring_ok {l : List ByteArray} (hs : l.Pairwise (fun a b => ¬ ltstring b a)) : ∀ j, j + 1 ≤ l.length → KP ltstring l (slices_Compact_string_string.kp l (j + 1)) (j + 1)
  | 0, h => KP.one (by omega)
  | j + 1, h => by
    have ih := kpstring_ok hs j (by omega)
    have e1 : rdOf ByteArray.empty l ((j + 1 : Nat) : Int) = l[j + 1] := slices_Compact_string_string.rd_get l (j + 1) (by omega)
    have e0 : rdOf ByteArray.empty l (j : Int) = l[j] := slices_Compact_string_string.rd_get l j (by omega)
    show KP ltstring l (if slices_Compact_string_string.eq (rdOf ByteArray.empty l ((j + 1 : Nat) : Int)) (rdOf ByteArray.empty l (j : Int)) then slices_Compact_string_string.kp l (j + 1) else slices_Compact_string_string.kp l (j + 1) ++ [rdOf ByteArray.empty l ((j + 1 : Nat) : Int)]) (j + 2)
    rw [e1, e0]
    by_cases c : slices_Compact_string_string.eq l[j + 1] l[j]
    · rw [if_pos c]
      exact KP.same ih (by omega) (bytes_inj c)
    · rw [if_neg c]
      exact KP.more sostring hs ih (by omega) (fun e => c (by rw [e]))
theorem kpstring_len (l : List ByteArray) : ∀ j, (slices_Compact_string_string.kp l j).length ≤ j
  | 0 => Nat.le_refl _
  | 1 => by simp [slices_Compact_string_string.kp]; omega
  | j + 2 => by
    have ih := kpstring_len l (j + 1)
    simp only [slices_Compact_string_string.kp]
    split
    · omega
    · simp; omega
theorem srtstring_ok (l : List ByteArray) (hl : l.length ≤ 2000000000000) : ∃ s, slices_Sort_string_string.f l = some s ∧ s.Pairwise (fun a b => ¬ ltstring b a) ∧ (∀ x, x ∈ s ↔ x ∈ l) ∧ s.length = l.length := by
  refine ⟨_, if_pos hl, ?_, fun x => ?_, by rw [List.length_map, List.length_mergeSort, List.length_map]⟩
  · have h := List.pairwise_mergeSort (le := fun (x y : List UInt8) => decide (x ≤ y)) (fun a b c h1 h2 => by simp only [decide_eq_true_eq] at *; exact List.le_trans h1 h2) (fun a b => by simp only [Bool.or_eq_true, decide_eq_true_eq]; exact List.le_total a b) (l.map slices_Sort_string_string.bl)
    refine List.pairwise_map.2 (h.imp (fun {a b} hab => ?_))
    simp only [decide_eq_true_eq] at hab
    unfold ltstring slices_Sort_string_string.bs
    rw [Lib.toList_data, Lib.toList_data]
    exact List.not_lt.2 hab
  · rw [List.mem_map]
    constructor
    · rintro ⟨y, hy, rfl⟩
      rw [List.mem_mergeSort, List.mem_map] at hy
      obtain ⟨z, hz, rfl⟩ := hy
      exact hz
    · intro hx
      exact ⟨slices_Sort_string_string.bl x, by rw [List.mem_mergeSort, List.mem_map]; exact ⟨x, hx, rfl⟩, rfl⟩
theorem dicstring_ok (l : List ByteArray) (hl : l.length ≤ 2000000000000) : ∃ s d, slices_Sort_string_string.f l = some s ∧ slices_Compact_string_string.f s = some d ∧ d.Pairwise ltstring ∧ (∀ x, x ∈ d ↔ x ∈ l) ∧ d.length ≤ l.length := by
  obtain ⟨s, h1, h2, h3, h4⟩ := srtstring_ok l hl
  refine ⟨s, _, h1, if_pos (by rw [h4]; exact hl), ?_, ?_, ?_⟩
  · cases hs : s.length with
    | zero => exact List.Pairwise.nil
    | succ j => exact (kpstring_ok h2 j (by omega)).1
  · intro x
    rw [← h3]
    cases hs : s.length with
    | zero => rw [List.length_eq_zero_iff.1 hs]; rfl
    | succ j => rw [(kpstring_ok h2 j (by omega)).2.1, List.take_of_length_le (by omega)]
  · have := kpstring_len s s.length
    omega
theorem findstring (d : List ByteArray) (hd : d.Pairwise ltstring) (hn : d.length ≤ 4398046511104) (m : Nat) (hm : m < d.length) : ∀ (n lo hi : Nat), hi - lo ≤ n → lo ≤ m → m ≤ hi → hi ≤ d.length →
    Ev (fun k => slices_BinarySearch_string_string.l0 k d d[m] (d.length : Int) (lo : Int) (hi : Int)) ((m : Int), true)
  | n, lo, hi, hk, h1, h2, h3 => by
    by_cases hlt : lo < hi
    · obtain ⟨n, rfl⟩ : ∃ e, n = e + 1 := ⟨n - 1, by omega⟩
      have em := dict_mid lo hi (by omega) hlt
      have hml : (lo + hi) / 2 < d.length := by omega
      have er : rdOf ByteArray.empty d (((lo + hi) / 2 : Nat) : Int) = d[(lo + hi) / 2] := slices_Compact_string_string.rd_get d _ hml
      have hiff : ltstring d[(lo + hi) / 2] d[m] ↔ (lo + hi) / 2 < m := rise_lt_iff sostring hd hml hm
      refine Ev.step (fun k => slices_BinarySearch_string_string.l0_succ k _ _ _ _ _) (Ev.yes (by omega) ?_)
      rw [em]
      refine Ev.yes (by omega) (Ev.yes (by omega) ?_)
      rw [er]
      refine Ev.call (ltstring_dec _ _) ?_
      by_cases c : (lo + hi) / 2 < m
      · refine Ev.yes (decide_eq_true (hiff.2 c)) ?_
        rw [show wrap64 ((((lo + hi) / 2 : Nat) : Int) + 1) = (((lo + hi) / 2 + 1 : Nat) : Int) by unfold wrap64; omega]
        exact findstring d hd hn m hm n ((lo + hi) / 2 + 1) hi (by omega) (by omega) h2 h3
      · refine Ev.no (by rw [decide_eq_true_eq]; exact fun h => c (hiff.1 h)) ?_
        exact findstring d hd hn m hm n lo ((lo + hi) / 2) (by omega) h1 (by omega) (by omega)
    · have e : lo = m := by omega
      have er : rdOf ByteArray.empty d (m : Int) = d[m] := slices_Compact_string_string.rd_get d m hm
      subst e
      refine Ev.step (fun k => slices_BinarySearch_string_string.l0_succ k _ _ _ _ _) (Ev.no (by omega) (Ev.yes (by omega) (Ev.yes (by omega) (Ev.yes (by omega) ?_))))
      rw [er]
      exact Ev.yes rfl (Ev.now _)
theorem ofstring_loop (l d : List ByteArray) (hd : d.Pairwise ltstring) (hn : d.length ≤ 4398046511104) (hl : l.length ≤ 2000000000000) (hm : ∀ x, x ∈ l → x ∈ d) : ∀ (n i : Nat) (p : List Int), i + n = l.length → p.length = i →
    (∀ j (hj : j < l.length), j < i → ∃ k : Nat, ∃ hk : k < d.length, p[j]? = some (k : Int) ∧ d[k] = l[j]) →
    ∃ q, Ev (fun k => dict_Of_string.l0 k d p l (l.length : Int) (i : Int)) (d, q) ∧ q.length = l.length ∧ ∀ j (hj : j < l.length), ∃ k : Nat, ∃ hk : k < d.length, q[j]? = some (k : Int) ∧ d[k] = l[j]
  | 0, i, p, h, hp, hq => ⟨p, Ev.step (fun k => dict_Of_string.l0_succ k _ _ _ _ _) (Ev.no (by omega) (Ev.now _)), by omega, fun j hj => hq j hj (by omega)⟩
  | n + 1, i, p, h, hp, hq => by
    have hi : i < l.length := by omega
    obtain ⟨m, hmd, e⟩ := List.getElem_of_mem (hm l[i] (List.getElem_mem hi))
    have er : rdOf ByteArray.empty l (i : Int) = l[i] := slices_Compact_string_string.rd_get l i hi
    have ei : wrap64 ((i : Int) + 1) = ((i + 1 : Nat) : Int) := by unfold wrap64; omega
    have hs := findstring d hd hn m hmd d.length 0 d.length (by omega) (by omega) (by omega) (Nat.le_refl _)
    rw [e] at hs
    obtain ⟨q, h1, h2, h3⟩ := ofstring_loop l d hd hn hl hm n (i + 1) (p ++ [(m : Int)]) (by omega) (by simp; omega) (fun j hj hji => by
      by_cases c : j < i
      · obtain ⟨k, hk, a, b⟩ := hq j hj c
        exact ⟨k, hk, by rw [List.getElem?_append_left (by omega)]; exact a, b⟩
      · obtain rfl : j = i := by omega
        exact ⟨m, hmd, by rw [List.getElem?_append_right (by omega), hp, Nat.sub_self]; rfl, e⟩)
    refine ⟨q, Ev.step (fun k => dict_Of_string.l0_succ k _ _ _ _ _) (Ev.yes (by omega) (Ev.yes (by omega) (Ev.yes (by omega) ?_))), h2, h3⟩
    rw [er, ei]
    exact Ev.bind (show Ev (fun k => slices_BinarySearch_string_string.f k d l[i]) ((m : Int), true) from hs) (Ev.yes (by omega) h1)
theorem ofstring_ev (l : List ByteArray) (hl : l.length ≤ 2000000000000) : ∃ d p, Ev (fun k => dict_Of_string.f k l) (d, p) ∧ IsOf ltstring l d p ∧ d.length ≤ l.length := by
  obtain ⟨s, d, h1, h2, h3, h4, h5⟩ := dicstring_ok l hl
  obtain ⟨q, a, b, c⟩ := ofstring_loop l d h3 (by omega) hl (fun x hx => (h4 x).2 hx) l.length 0 [] (by omega) rfl (fun j hj h => absurd h (Nat.not_lt_zero j))
  refine ⟨d, q, ?_, ⟨h3, h4, b, c⟩, h5⟩
  unfold dict_Of_string.f
  exact Ev.call (v := l) (if_pos hl) (Ev.call h1 (Ev.call h2 a))
end Go.Proofs.Ytfohecpfenegkaa.Print
end
section
set_option linter.unusedVariables false
set_option linter.unusedSimpArgs false
namespace Go.Proofs.Ytfohecpfenegkaa.Print
open Go.RowKit Go.Proofs.YtfohecpfenegkaaW.PrintWords Go.Proofs.YtfohecpfenegkaaW.PrintMore
theorem same07_loop (l : List ByteArray) (hl : l.length ≤ 4398046511104) : ∀ (d i : Nat), i + d = l.length → Ev (fun k => peristyleref07_Same.l0 k l l (i : Int)) true
  | 0, i, h => Ev.step (fun k => peristyleref07_Same.l0_succ k _ _ _) (Ev.no (by omega) (Ev.now _))
  | d + 1, i, h => by
    have e : wrap64 ((i : Int) + 1) = ((i + 1 : Nat) : Int) := by unfold wrap64; omega
    have ih := same07_loop l hl d (i + 1) (by omega)
    rw [← e] at ih
    exact Ev.step (fun k => peristyleref07_Same.l0_succ k _ _ _) (Ev.yes (by omega) (Ev.yes (by omega) (Ev.yes (by omega) (Ev.yes rfl ih))))
theorem same07_ev (l : List ByteArray) (hl : l.length ≤ 4398046511104) : Ev (fun k => peristyleref07_Same.f k l l) true := Ev.yes rfl (same07_loop l hl l.length 0 (by omega))
theorem awake11_of : Ev (fun k => dict_Of_string.f k [(⟨#[98]⟩ : ByteArray), (⟨#[97]⟩ : ByteArray), (⟨#[98]⟩ : ByteArray)]) ([(⟨#[97]⟩ : ByteArray), (⟨#[98]⟩ : ByteArray)], [1, 0, 1]) := by
  obtain ⟨d, p, h1, h2, _⟩ := ofstring_ev [(⟨#[98]⟩ : ByteArray), (⟨#[97]⟩ : ByteArray), (⟨#[98]⟩ : ByteArray)] (by simp)
  have h3 : IsOf ltstring [(⟨#[98]⟩ : ByteArray), (⟨#[97]⟩ : ByteArray), (⟨#[98]⟩ : ByteArray)] [(⟨#[97]⟩ : ByteArray), (⟨#[98]⟩ : ByteArray)] [1, 0, 1] := by
    refine ⟨?_, fun x => ?_, rfl, fun i hi => ?_⟩
    · refine List.pairwise_cons.2 ⟨fun x hx => ?_, List.pairwise_cons.2 ⟨fun x hx => by simp at hx, List.Pairwise.nil⟩⟩
      obtain rfl := List.mem_singleton.1 hx
      unfold ltstring
      rw [Lib.toList_data, Lib.toList_data]
      show [(97 : UInt8)] < [98]
      decide
    · simp only [List.mem_cons, List.not_mem_nil, or_false]
      constructor
      · rintro (h | h)
        · exact .inr (.inl h)
        · exact .inl h
      · rintro (h | h | h)
        · exact .inr h
        · exact .inl h
        · exact .inr h
    · match i, hi with
      | 0, _ => exact ⟨1, by simp, rfl, rfl⟩
      | 1, _ => exact ⟨0, by simp, rfl, rfl⟩
      | 2, _ => exact ⟨1, by simp, rfl, rfl⟩
      | n + 3, h => exact absurd h (by simp)
  obtain ⟨rfl, rfl⟩ := IsOf.uniq sostring h2 h3
  exact h1
theorem awake11_put : Ev (fun k => plain_PutTexts.f k [(⟨#[97]⟩ : ByteArray), (⟨#[98]⟩ : ByteArray)]) ((⟨#[1, 97, 1, 98]⟩ : ByteArray), 0) := Ev.of (plain_PutTexts.mono _) (k := 10) (by kernel_rfl)
theorem awake11_width : Ev (fun k => pack_Width.f k [1, 0, 1]) 1 := Ev.of (pack_Width.mono _) (k := 100) (by kernel_rfl)
theorem awake11_pack : Ev (fun k => pack_Put.f k [1, 0, 1] 1) ((⟨#[5]⟩ : ByteArray), 0) := Ev.of (pack_Put.mono _ _) (k := 100) (by kernel_rfl)
theorem awake11_vint : vint_Put.f 2 = some (⟨#[4]⟩ : ByteArray) := by kernel_rfl
theorem awake11_take : Ev (fun k => dict_TakeInts.f k (⟨#[4, 10, 14, 1]⟩ : ByteArray) 2) ([7, 5], 0) := Ev.of (dict_TakeInts.mono _ _) (k := 200) (by kernel_rfl)
theorem awake11_bytes : ((⟨#[4]⟩ : ByteArray) ++ (⟨#[1, 97, 1, 98]⟩ : ByteArray) ++ (⟨#[5]⟩ : ByteArray)).toList = [4, 1, 97, 1, 98, 5] := by
  rw [Lib.toList_data]
  rfl
theorem awake11_same (l : List Int) (h : peristyleref01_Same.f 50 l l = some true) : Ev (fun k => peristyleref01_Same.f k l l) true := Ev.of (peristyleref01_Same.mono _ _) (k := 50) h
theorem awake11_ev : Ev (fun k => peristylelaw11_awake.f k) true := by
  have hp : Ev (fun k => dict_PutTexts.f k [(⟨#[98]⟩ : ByteArray), (⟨#[97]⟩ : ByteArray), (⟨#[98]⟩ : ByteArray)]) ((⟨#[4]⟩ : ByteArray) ++ (⟨#[1, 97, 1, 98]⟩ : ByteArray) ++ (⟨#[5]⟩ : ByteArray), 0) := by
    unfold dict_PutTexts.f
    refine Ev.bind (a := ((⟨#[4]⟩ : ByteArray) ++ (⟨#[1, 97, 1, 98]⟩ : ByteArray) ++ (⟨#[5]⟩ : ByteArray), 0)) ?_ (Ev.now _)
    unfold dict_put_string_fn38.f
    exact Ev.no (by simp) (Ev.no (by simp) (Ev.bind awake11_of (Ev.bind awake11_put (Ev.yes rfl (Ev.bind awake11_width (Ev.bind awake11_pack (Ev.call awake11_vint (Ev.yes (by decide) (Ev.yes (by decide) (Ev.now _))))))))))
  unfold peristylelaw11_awake.f
  exact Ev.bind awake11_of (Ev.bind hp (Ev.bind awake11_take (Ev.bind (same07_ev _ (by simp)) (Ev.yes rfl (Ev.bind (awake11_same _ (by kernel_rfl)) (Ev.yes rfl (Ev.yes awake11_bytes (Ev.yes rfl (Ev.bind (awake11_same _ (by kernel_rfl)) (Ev.yes rfl (Ev.now _)))))))))))
end Go.Proofs.Ytfohecpfenegkaa.Print
end
section
set_option linter.unusedVariables false
set_option linter.unusedSimpArgs false
namespace Go.Proofs.Ytfohecpfenegkaa.Pure
open Go.RowKit Go.Proofs.Ytfohecpfenegkaa.Print Go.Proofs.YtfohecpfenegkaaW.PrintWords Go.Proofs.YtfohecpfenegkaaW.PrintLast Go.Proofs.YtfohecpfenegkaaW.PrintMore
theorem few07 (l : List ByteArray) : ∀ (d i : Nat), i + d = 60 → ∃ b, Ev (fun k => peristyleref07_Few.l0 k l 60 (i : Int)) b ∧ (b = true → l.length ≤ 60)
  | d, i, h => by
    have tail : ∃ b, Ev (fun k => peristyleref07_Few.j1 k l 60 (i : Int) false) b ∧ (b = true → l.length ≤ 60) := ⟨_, Ev.step (fun k => peristyleref07_Few.j1_succ k _ _ _ _) (Ev.no (by decide) (Ev.now _)), fun hb => by rw [decide_eq_true_eq] at hb; omega⟩
    by_cases c1 : (i : Int) < (l.length : Int)
    · by_cases c2 : (i : Int) < 60
      · match d, h with
        | 0, h => exact absurd c2 (by omega)
        | d + 1, h =>
          have e : wrap64 ((i : Int) + 1) = ((i + 1 : Nat) : Int) := by unfold wrap64; omega
          by_cases c3 : ((rdOf ByteArray.empty l (i : Int)).size : Int) > 100
          · refine ⟨false, Ev.step (fun k => peristyleref07_Few.l0_succ k _ _ _) (Ev.yes c1 ?_), fun hb => by cases hb⟩
            rw [decide_eq_true c2]
            exact Ev.step (fun k => peristyleref07_Few.j1_succ k _ _ _ _) (Ev.yes rfl (Ev.yes (by omega) (Ev.yes c1 (Ev.yes c3 (Ev.now _)))))
          · obtain ⟨b, hb, hb2⟩ := few07 l d (i + 1) (by omega)
            rw [← e] at hb
            refine ⟨b, Ev.step (fun k => peristyleref07_Few.l0_succ k _ _ _) (Ev.yes c1 ?_), hb2⟩
            rw [decide_eq_true c2]
            exact Ev.step (fun k => peristyleref07_Few.j1_succ k _ _ _ _) (Ev.yes rfl (Ev.yes (by omega) (Ev.yes c1 (Ev.no c3 hb))))
      · obtain ⟨b, hb, hb2⟩ := tail
        refine ⟨b, Ev.step (fun k => peristyleref07_Few.l0_succ k _ _ _) (Ev.yes c1 ?_), hb2⟩
        rw [decide_eq_false c2]
        exact hb
    · obtain ⟨b, hb, hb2⟩ := tail
      exact ⟨b, Ev.step (fun k => peristyleref07_Few.l0_succ k _ _ _) (Ev.no c1 hb), hb2⟩
theorem few07_ev (l : List ByteArray) : ∃ b, Ev (fun k => peristyleref07_Few.f k l 60) b ∧ (b = true → l.length ≤ 60) := few07 l 60 0 rfl
theorem used_loop (u : List Bool) (hu : u.length ≤ 4398046511104) (ht : ∀ m : Nat, m < u.length → rdOf false u (m : Int) = true) : ∀ (d i : Nat), i + d = u.length → Ev (fun k => peristylelaw11_DictOrders.l2 k u (i : Int)) true
  | 0, i, h => Ev.step (fun k => peristylelaw11_DictOrders.l2_succ k _ _) (Ev.no (by omega) (Ev.bind awake11_ev (Ev.now _)))
  | d + 1, i, h => by
    have e : wrap64 ((i : Int) + 1) = ((i + 1 : Nat) : Int) := by unfold wrap64; omega
    have ih := used_loop u hu ht d (i + 1) (by omega)
    rw [← e] at ih
    exact Ev.step (fun k => peristylelaw11_DictOrders.l2_succ k _ _) (Ev.yes (by omega) (Ev.yes (by omega) (Ev.yes (ht i (by omega)) ih)))
theorem rd_some {p : List Int} {i : Nat} {x : Int} (h : p[i]? = some x) : rd p (i : Int) = x := by simp [rd, List.getD_eq_getElem?_getD, h]
theorem pair_loop (l d : List ByteArray) (p : List Int) (h : IsOf ltstring l d p) (hl : l.length ≤ 60) (u : List Bool) (i : Nat) (hi : i < l.length) (ki : Nat) (hki : ki < d.length) (hpi : p[i]? = some (ki : Int)) (hdi : d[ki] = l[i]) {R : Bool}
    (hR : Ev (fun k => peristylelaw11_DictOrders.l0 k l d p u (wrap64 ((i : Int) + 1))) R) : ∀ (n j : Nat), j + n = i → Ev (fun k => peristylelaw11_DictOrders.l1 k l d p u (i : Int) (j : Int)) R
  | 0, j, hj => Ev.step (fun k => peristylelaw11_DictOrders.l1_succ k _ _ _ _ _ _) (Ev.no (by omega) hR)
  | n + 1, j, hj => by
    have e : wrap64 ((j : Int) + 1) = ((j + 1 : Nat) : Int) := by unfold wrap64; omega
    have ih := pair_loop l d p h hl u i hi ki hki hpi hdi hR n (j + 1) (by omega)
    rw [← e] at ih
    have hjl : j < l.length := by omega
    obtain ⟨kj, hkj, hpj, hdj⟩ := h.2.2.2 j hjl
    have hpl := h.2.2.1
    have ej : rdOf ByteArray.empty l (j : Int) = l[j] := slices_Compact_string_string.rd_get l j hjl
    have ei : rdOf ByteArray.empty l (i : Int) = l[i] := slices_Compact_string_string.rd_get l i hi
    have h1 : (Op.bytesLess l[j].toList l[i].toList != decide ((kj : Int) < (ki : Int))) = false := by
      have q : decide (d[kj].toList < d[ki].toList) = decide ((kj : Int) < (ki : Int)) := decide_eq_decide.2 ((rise_lt_iff sostring h.1 hkj hki).trans (by omega))
      rw [Go.Proofs.bytesLess_eq, ← hdj, ← hdi, q]
      simp
    have h2 : ((l[j].toList == l[i].toList) != ((kj : Int) == (ki : Int))) = false := by
      have q : (l[j].toList == l[i].toList) = ((kj : Int) == (ki : Int)) := by
        rw [Bool.eq_iff_iff, beq_iff_eq, beq_iff_eq, ← hdj, ← hdi]
        constructor
        · intro hh
          have := (rise_eq_iff sostring h.1 hkj hki).1 (bytes_inj hh)
          omega
        · intro hh
          obtain rfl : kj = ki := by omega
          rfl
      rw [q]; simp
    refine Ev.step (fun k => peristylelaw11_DictOrders.l1_succ k _ _ _ _ _ _) (Ev.yes (by omega) (Ev.yes (by omega) (Ev.yes (by omega) (Ev.yes (by omega) (Ev.yes (by omega) (Ev.yes (by omega) (Ev.yes (by omega) ?_)))))))
    rw [ej, ei, rd_some hpj, rd_some hpi, h1, h2]
    exact Ev.no (by decide) (Ev.no (by decide) ih)
theorem orders_loop (l d : List ByteArray) (p : List Int) (h : IsOf ltstring l d p) (hl : l.length ≤ 60) (hd : d.length ≤ l.length) : ∀ (n i : Nat) (u : List Bool), i + n = l.length → u.length = d.length →
    (∀ j, j < i → ∀ m : Nat, p[j]? = some (m : Int) → m < d.length → rdOf false u (m : Int) = true) → Ev (fun k => peristylelaw11_DictOrders.l0 k l d p u (i : Int)) true
  | 0, i, u, hi, hu, hq => by
    have hall : ∀ m : Nat, m < u.length → rdOf false u (m : Int) = true := fun m hm => by
      obtain ⟨j, hj, e⟩ := List.getElem_of_mem ((h.2.1 d[m]).1 (List.getElem_mem (by omega)))
      obtain ⟨k, hk, a, b⟩ := h.2.2.2 j hj
      have : k = m := (rise_eq_iff sostring h.1 hk (by omega)).1 (b.trans e)
      subst this
      exact hq j (by omega) k a hk
    have hl2 := used_loop u (by omega) hall u.length 0 (by omega)
    exact Ev.step (fun k => peristylelaw11_DictOrders.l0_succ k _ _ _ _ _) (Ev.no (by omega) (Ev.step (fun k => peristylelaw11_DictOrders.j1_succ k _ _ _ _ _ _) (Ev.no (by decide) hl2)))
  | n + 1, i, u, hi, hu, hq => by
    have hil : i < l.length := by omega
    have hpl := h.2.2.1
    obtain ⟨k, hk, a, b⟩ := h.2.2.2 i hil
    have er := rd_some a
    have ed : rdOf ByteArray.empty d (k : Int) = d[k] := slices_Compact_string_string.rd_get d k hk
    have el : rdOf ByteArray.empty l (i : Int) = l[i] := slices_Compact_string_string.rd_get l i hil
    have ei : wrap64 ((i : Int) + 1) = ((i + 1 : Nat) : Int) := by unfold wrap64; omega
    have ih := orders_loop l d p h hl hd n (i + 1) (u.set k true) (by omega) (by rw [List.length_set]; exact hu) (fun j hj m hm hmd => by
      by_cases c : m = k
      · subst c
        simp [rdOf, List.getD_eq_getElem?_getD, List.getElem?_set, show m < u.length by omega]
      · have hji : j ≠ i := fun e => c (by subst e; rw [a] at hm; have := Option.some.inj hm; omega)
        have := hq j (by omega) m hm hmd
        rw [← this]
        simp [rdOf, List.getD_eq_getElem?_getD, List.getElem?_set, show k ≠ m from fun e => c e.symm])
    rw [← ei] at ih
    have hp := pair_loop l d p h hl (u.set k true) i hil k hk a b ih i 0 (by omega)
    refine Ev.step (fun k => peristylelaw11_DictOrders.l0_succ k _ _ _ _ _) (Ev.yes (by omega) ?_)
    rw [decide_eq_true (show (i : Int) < (p.length : Int) by omega)]
    refine Ev.step (fun k => peristylelaw11_DictOrders.j1_succ k _ _ _ _ _ _) (Ev.yes rfl (Ev.yes (by omega) (Ev.yes (by omega) ?_)))
    rw [er]
    refine Ev.no (by omega) (Ev.no (by omega) (Ev.yes (by omega) (Ev.yes (by omega) (Ev.yes (by omega) ?_))))
    rw [ed, el, b, bne_self_eq_false]
    refine Ev.step (fun k => peristylelaw11_DictOrders.j2_succ k _ _ _ _ _ _) (Ev.no (by decide) (Ev.yes (by omega) (Ev.yes (by omega) ?_)))
    rw [er]
    refine Ev.yes (by omega) (Ev.yes (by omega) ?_)
    rw [Int.toNat_natCast]
    exact hp
theorem DictOrders : peristylelaw11_DictOrders.Pure := by
  intro l _
  refine Ev.rounds (g := fun k => peristylelaw11_DictOrders.f k l) ?_
  unfold peristylelaw11_DictOrders.f
  obtain ⟨b, hb, hb2⟩ := few07_ev l
  refine Ev.bind hb ?_
  cases b with
  | false => exact Ev.no (by decide) (Ev.bind awake11_ev (Ev.now _))
  | true =>
    have hl := hb2 rfl
    obtain ⟨d, p, h1, h2, h3⟩ := ofstring_ev l (by omega)
    have hpl := h2.2.2.1
    refine Ev.yes rfl (Ev.bind h1 ?_)
    dsimp only
    refine Ev.yes (by omega) (Ev.yes (by omega) (Ev.yes (by omega) ?_))
    rw [Int.toNat_natCast]
    exact orders_loop l d p h2 hl h3 l.length 0 _ (by omega) (by simp) (fun j hj => absurd hj (Nat.not_lt_zero j))
end Go.Proofs.Ytfohecpfenegkaa.Pure
end
