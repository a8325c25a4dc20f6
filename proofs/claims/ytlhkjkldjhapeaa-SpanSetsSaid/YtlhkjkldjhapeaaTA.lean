-- Sets as spans: one behind the other, joined; two sets, put together by their parts.
import Derived.Test.YtlhkjkldjhapeaaPrint0
import Derived.Test.YtlhkjkldjhapeaaPrint3
import Derived.Test.YtlhkjkldjhapeaaPrint4
import Derived.Test.YtlhkjkldjhapeaaPrint5
import Derived.Test.YtlhkjkldjhapeaaPrint6
import Derived.Test.YtlhkjkldjhapeaaPrint7
import Derived.Test.YtlhkjkldjhapeaaSY
set_option linter.unusedVariables false
set_option linter.unusedSimpArgs false
namespace Go.Proofs.Ytlhkjkldjhapeaa.Print
open Go.RowKit Go.Proofs.YtlhkjkldjhapeaaW.PrintWords Go.Proofs.YtlhkjkldjhapeaaW.PrintMore
theorem memS_none {m : List S43} {x : Int} (h : mayB m x = true) {n : Nat} (hn : (n : Int) ≤ x) : memS m n = false := by
  cases hc : memS m n with
  | false => rfl
  | true => have := (memS_top h n hc).2; omega
theorem memS_head {s : S43} (l : List S43) (h0 : 0 ≤ s.f0) (h1 : s.f0 < s.f1) : memS (s :: l) s.f0.toNat = true := by
  rw [memS_cons, decide_eq_true (by omega)]; rfl
theorem may_ext : ∀ (a b : List S43) (x : Int), -1 ≤ x → mayB a x = true → mayB b x = true → (∀ n, memS a n = memS b n) → a = b
  | [], [], _, _, _, _, _ => rfl
  | [], t :: m, x, hx, _, hb, h => by
    obtain ⟨h1, h2, h3, h4⟩ := mayB_cons hb
    have hq := h t.f0.toNat
    rw [memS_head m (by omega) h2] at hq
    simp [memS] at hq
  | s :: l, [], x, hx, ha, _, h => by
    obtain ⟨h1, h2, h3, h4⟩ := mayB_cons ha
    have hq := h s.f0.toNat
    rw [memS_head l (by omega) h2] at hq
    simp [memS] at hq
  | s :: l, t :: m, x, hx, ha, hb, h => by
    obtain ⟨a1, a2, a3, a4⟩ := mayB_cons ha
    obtain ⟨b1, b2, b3, b4⟩ := mayB_cons hb
    have e0 : s.f0 = t.f0 := by
      rcases Int.lt_trichotomy s.f0 t.f0 with q | q | q
      · have hq := h s.f0.toNat
        rw [memS_head l (by omega) a2, memS_cons, decide_eq_false (by omega), memS_none b4 (by omega)] at hq
        simp at hq
      · exact q
      · have hq := h t.f0.toNat
        rw [memS_head m (by omega) b2, memS_cons, decide_eq_false (by omega), memS_none a4 (by omega)] at hq
        simp at hq
    have e1 : s.f1 = t.f1 := by
      rcases Int.lt_trichotomy s.f1 t.f1 with q | q | q
      · have hq := h s.f1.toNat
        rw [memS_cons, decide_eq_false (by omega), memS_none a4 (by omega), memS_cons, decide_eq_true (by omega)] at hq
        simp at hq
      · exact q
      · have hq := h t.f1.toNat
        rw [memS_cons, decide_eq_true (by omega), memS_cons, decide_eq_false (by omega), memS_none b4 (by omega)] at hq
        simp at hq
    rw [S_ext e0 e1, may_ext l m s.f1 (by omega) a4 (by rw [e1]; exact b4) (fun n => ?_)]
    by_cases hn : (n : Int) ≤ s.f1
    · rw [memS_none a4 hn, memS_none b4 (by omega)]
    · have hq := h n
      rw [memS_cons, memS_cons, decide_eq_false (by omega), decide_eq_false (by omega)] at hq
      simpa using hq
theorem may_len : ∀ (l : List S43) (x : Int), x ≤ 65536 → mayB l x = true → (l.length : Int) ≤ 65536 - x
  | [], x, hx, _ => by simp; omega
  | s :: l, x, hx, h => by
    obtain ⟨h1, h2, h3, h4⟩ := mayB_cons h
    have := may_len l s.f1 h3 h4
    simp only [List.length_cons]
    omega
theorem rdS_mid (A B : List S43) (s : S43) : rd_T43 (A ++ s :: B) (A.length : Int) = s := by
  rw [rdS_get _ _ (by simp)]
  simp
theorem memS_one (s : S43) (n : Nat) : memS [s] n = decide (s.f0 ≤ (n : Int) ∧ (n : Int) < s.f1) := by simp [memS]
theorem adds_ok (o : List S43) (lo hi : Int) (hm : mayB o (-1) = true) (h0 : 0 ≤ lo) (h1 : lo < hi) (h2 : hi ≤ 65536) (ho : ∀ A s, o = A ++ [s] → s.f0 ≤ lo ∧ s.f1 ≤ hi) :
    ∃ A s, span_adds.f o lo hi = some (A ++ [s]) ∧ s.f0 ≤ lo ∧ s.f1 = hi ∧ mayB (A ++ [s]) (-1) = true ∧ ∀ n, memS (A ++ [s]) n = (memS o n || decide (lo ≤ (n : Int) ∧ (n : Int) < hi)) := by
  have hl := may_len o (-1) (by omega) hm
  unfold span_adds.f
  rw [if_neg (by omega)]
  rcases List.eq_nil_or_concat o with rfl | ⟨A, s, rfl⟩
  · refine ⟨[], ⟨lo, hi⟩, ?_, Int.le_refl _, rfl, ?_, fun n => ?_⟩
    · rw [if_neg (by simp [wrap64]), if_pos (by simp)]
    · simp [mayB]; omega
    · simp [memS]
  · rw [List.concat_eq_append] at hl hm ho ⊢
    obtain ⟨hs0, hs1⟩ := ho A s rfl
    have hmm := (mayB_snoc A s (-1)).mp hm
    have hle : (A ++ [s]).length = A.length + 1 := by simp
    have hw : wrap64 (((A ++ [s]).length : Int) - 1) = (A.length : Int) := by rw [hle]; unfold wrap64; omega
    rw [hw, if_pos (by omega), if_pos (by omega), if_pos (by omega), rdS_mid]
    by_cases hc : s.f1 ≥ lo
    · rw [if_pos hc]
      have hx : mx s.f1 hi = hi := by unfold mx; split <;> omega
      refine ⟨A, ⟨s.f0, hi⟩, ?_, hs0, rfl, ?_, fun n => ?_⟩
      · rw [hx, Int.toNat_natCast]
        simp
      · exact (mayB_snoc A _ (-1)).mpr ⟨hmm.1, hmm.2.1, by show s.f0 < hi; omega, h2⟩
      · rw [memS_append, memS_append, memS_one, memS_one, Bool.or_assoc, ← Bool.decide_or]
        congr 1
        exact decide_eq_decide.2 (by show s.f0 ≤ (n : Int) ∧ (n : Int) < hi ↔ _; omega)
    · rw [if_neg hc, if_pos (by omega)]
      refine ⟨A ++ [s], ⟨lo, hi⟩, rfl, Int.le_refl _, rfl, ?_, fun n => ?_⟩
      · refine (mayB_snoc _ _ (-1)).mpr ⟨hm, ?_, h1, h2⟩
        rw [if_neg (by simp), topS_snoc]
        show s.f1 < lo
        omega
      · rw [memS_append, memS_one]
/-- parts that go over two sets from a place on -/
def partsOk (a b : List S43) : Int → List S55 → Prop
  | at_, [] => ∀ n : Nat, at_ ≤ (n : Int) → memS a n = false ∧ memS b n = false
  | at_, x :: r => x.f0.f0 = at_ ∧ at_ < x.f0.f1 ∧ x.f0.f1 ≤ 65536 ∧ (∀ n : Nat, at_ ≤ (n : Int) → (n : Int) < x.f0.f1 → memS a n = x.f1 ∧ memS b n = x.f2) ∧ partsOk a b x.f0.f1 r
/-- where one set stands -/
structure Side (a pre suf : List S43) (at_ : Int) : Prop where
  eq : a = pre ++ suf
  low : ∀ s, s ∈ pre → s.f1 ≤ at_
  may : ∃ y, y ≤ at_ ∧ mayB suf y = true
  next : ∀ s t, suf = s :: t → at_ < s.f1
def hiOf (suf : List S43) (at_ : Int) : Int := match suf with | [] => 65536 | s :: _ => if at_ < s.f0 then s.f0 else s.f1
def inOf (suf : List S43) (at_ : Int) : Bool := match suf with | [] => false | s :: _ => decide (s.f0 ≤ at_)
theorem Side.tail {a pre suf : List S43} {at_ : Int} (h : Side a pre suf at_) (n : Nat) (hn : at_ ≤ (n : Int)) : memS a n = memS suf n := by
  rw [h.eq, memS_append]
  have : memS pre n = false := by
    unfold memS
    rw [List.any_eq_false]
    intro s hs
    have := h.low s hs
    simp only [decide_eq_true_eq]
    omega
  rw [this, Bool.false_or]
theorem Side.hi {a pre suf : List S43} {at_ : Int} (h : Side a pre suf at_) : hiOf suf at_ ≤ 65536 ∧ (suf ≠ [] → at_ < hiOf suf at_) := by
  unfold hiOf
  split
  · exact ⟨Int.le_refl _, fun h => absurd rfl h⟩
  · rename_i s t
    obtain ⟨y, hy, hm⟩ := h.may
    obtain ⟨h1, h2, h3, h4⟩ := mayB_cons hm
    have := h.next s t rfl
    split
    · exact ⟨by omega, fun _ => by omega⟩
    · exact ⟨by omega, fun _ => by omega⟩
theorem Side.const {a pre suf : List S43} {at_ : Int} (h : Side a pre suf at_) (n : Nat) (hn : at_ ≤ (n : Int)) (hh : (n : Int) < hiOf suf at_) : memS a n = inOf suf at_ := by
  rw [h.tail n hn]
  unfold hiOf at hh
  unfold inOf
  split
  · rfl
  · rename_i s t
    obtain ⟨y, hy, hm⟩ := h.may
    obtain ⟨h1, h2, h3, h4⟩ := mayB_cons hm
    simp only at hh
    rw [memS_cons]
    split at hh
    · rw [decide_eq_false (by omega), memS_none h4 (by omega), decide_eq_false (by omega)]; rfl
    · rw [decide_eq_true (by omega), decide_eq_true (by omega)]; rfl
/-- where it stands behind a part -/
theorem Side.on {a pre suf : List S43} {at_ hi : Int} (h : Side a pre suf at_) (h1 : at_ < hi) (h2 : hi ≤ hiOf suf at_) : ∃ pre' suf', Side a pre' suf' hi ∧ (∀ s t, suf = s :: t → s.f1 ≤ hi → pre'.length = pre.length + 1) ∧ ((∀ s t, suf = s :: t → ¬ s.f1 ≤ hi) → pre'.length = pre.length) := by
  cases suf with
  | nil =>
    refine ⟨pre, [], ⟨h.eq, fun s hs => by have := h.low s hs; omega, ⟨at_, by omega, rfl⟩, fun s t hq => (by cases hq)⟩, fun s t hq => (by cases hq), fun _ => rfl⟩
  | cons s t =>
    obtain ⟨y, hy, hm⟩ := h.may
    obtain ⟨m1, m2, m3, m4⟩ := mayB_cons hm
    by_cases hc : s.f1 ≤ hi
    · have hq : hi = s.f1 := by
        simp only [hiOf] at h2
        split at h2 <;> omega
      refine ⟨pre ++ [s], t, ⟨by rw [h.eq]; simp, ?_, ⟨s.f1, by omega, m4⟩, ?_⟩, fun s' t' hq hle => by simp, fun hn => absurd hc (hn s t rfl)⟩
      · intro s' hs'
        rcases List.mem_append.mp hs' with hs' | hs'
        · have := h.low s' hs'; omega
        · rw [List.mem_singleton.mp hs']; omega
      · intro s' t' hq'
        rw [hq'] at m4
        obtain ⟨n1, n2, n3, n4⟩ := mayB_cons m4
        omega
    · refine ⟨pre, s :: t, ⟨h.eq, fun s' hs' => by have := h.low s' hs'; omega, ⟨y, by omega, hm⟩, fun s' t' hq => by injection hq with e1 e2; rw [← e1]; omega⟩, fun s' t' hq hle => ?_, fun _ => rfl⟩
      injection hq with e1 e2
      exact absurd (by rw [e1]; exact hle) hc
theorem Side.len {a pre suf : List S43} {at_ : Int} (h : Side a pre suf at_) : a.length = pre.length + suf.length := by rw [h.eq]; simp
theorem edge_hi (s : S43) (t : List S43) (at_ : Int) : span_edge.f s.f0 s.f1 at_ = some (hiOf (s :: t) at_) := by
  unfold span_edge.f hiOf
  simp only
  split <;> rfl
theorem mn_min (x y : Int) : mn x y = min x y := by unfold mn; split <;> omega
theorem parts_a (k0 : List S43) {a pre suf : List S43} {at_ : Int} (h : Side a pre suf at_) (hl : a.length ≤ 4398046511104) (kk : Int) (r : List S55)
    (hr : Ev (fun k => span_parts_1.j2 k at_ (pre.length : Int) kk a k0 at_ (hiOf suf at_) (inOf suf at_) false) r) : Ev (fun k => span_parts_1.j1 k at_ (pre.length : Int) kk true a k0) r := by
  have hlen := h.len
  have h16 := h.hi.1
  refine Ev.step (fun k => span_parts_1.j1_succ k _ _ _ _ _ _) (Ev.yes rfl ?_)
  cases suf with
  | nil =>
    simp only [List.length_nil] at hlen
    exact Ev.no (by omega) hr
  | cons s t =>
    simp only [List.length_cons] at hlen
    have hrd : rd_T43 a (pre.length : Int) = s := by rw [h.eq]; exact rdS_mid pre t s
    refine Ev.yes (by omega) (Ev.yes (by omega) ?_)
    rw [hrd]
    refine Ev.call (edge_hi s t at_) ?_
    rw [mn_min, Int.min_eq_right h16]
    exact hr
theorem parts_b (k0 : List S43) {b pre suf : List S43} {at_ : Int} (h : Side b pre suf at_) (hl : b.length ≤ 4398046511104) (ii hi : Int) (pa : Bool) (r : List S55) (h16 : hi ≤ 65536)
    (hr : Ev (fun k => span_parts_1.j3 k ii (pre.length : Int) k0 b at_ (min hi (hiOf suf at_)) pa (inOf suf at_)) r) : Ev (fun k => span_parts_1.j2 k at_ ii (pre.length : Int) k0 b at_ hi pa false) r := by
  have hlen := h.len
  refine Ev.step (fun k => span_parts_1.j2_succ k _ _ _ _ _ _ _ _ _) ?_
  cases suf with
  | nil =>
    simp only [List.length_nil] at hlen
    refine Ev.no (by omega) ?_
    rw [show min hi (hiOf [] at_) = hi by simp only [hiOf]; omega] at hr
    exact hr
  | cons s t =>
    simp only [List.length_cons] at hlen
    have hrd : rd_T43 b (pre.length : Int) = s := by rw [h.eq]; exact rdS_mid pre t s
    refine Ev.yes (by omega) (Ev.yes (by omega) ?_)
    rw [hrd]
    refine Ev.call (edge_hi s t at_) ?_
    rw [mn_min]
    exact hr
theorem parts_i {a pre suf pre' suf' : List S43} {at_ hi : Int} (h : Side a pre suf at_) (hl : a.length ≤ 4398046511104) (b : List S43) (kk : Int)
    (h1 : ∀ s t, suf = s :: t → s.f1 ≤ hi → pre'.length = pre.length + 1) (h2 : (∀ s t, suf = s :: t → ¬ s.f1 ≤ hi) → pre'.length = pre.length) (r : List S55)
    (hr : Ev (fun k => span_parts_1.j5 k hi (pre'.length : Int) kk a b) r) :
    Ev (fun k => if (pre.length : Int) < (a.length : Int) then (if 0 ≤ (pre.length : Int) then (span_parts_1.j4 k hi (pre.length : Int) kk (decide (((rd_T43 a (pre.length : Int)).f1) ≤ hi)) a b) else (none)) else (span_parts_1.j4 k hi (pre.length : Int) kk false a b)) r := by
  have hlen := h.len
  cases suf with
  | nil =>
    simp only [List.length_nil] at hlen
    rw [h2 (fun s t hq => by cases hq)] at hr
    exact Ev.no (by omega) (Ev.step (fun k => span_parts_1.j4_succ k _ _ _ _ _ _) (Ev.no (by decide) hr))
  | cons s t =>
    simp only [List.length_cons] at hlen
    have hrd : rd_T43 a (pre.length : Int) = s := by rw [h.eq]; exact rdS_mid pre t s
    refine Ev.yes (by omega) (Ev.yes (by omega) ?_)
    rw [hrd]
    refine Ev.step (fun k => span_parts_1.j4_succ k _ _ _ _ _ _) ?_
    by_cases hc : s.f1 ≤ hi
    · refine Ev.yes (decide_eq_true hc) ?_
      rw [h1 s t rfl hc] at hr
      rw [show wrap64 ((pre.length : Int) + 1) = ((pre.length + 1 : Nat) : Int) by unfold wrap64; omega]
      exact hr
    · rw [h2 (fun s' t' hq => by injection hq with e1 e2; rw [← e1]; exact hc)] at hr
      exact Ev.no (by simpa using hc) hr
theorem parts_k {b pre suf pre' suf' : List S43} {at_ hi : Int} (h : Side b pre suf at_) (hl : b.length ≤ 4398046511104) (a : List S43) (ii : Int)
    (h1 : ∀ s t, suf = s :: t → s.f1 ≤ hi → pre'.length = pre.length + 1) (h2 : (∀ s t, suf = s :: t → ¬ s.f1 ≤ hi) → pre'.length = pre.length) (r : List S55)
    (hr : Ev (fun k => span_parts_1.l0 k hi ii (pre'.length : Int) a b) r) : Ev (fun k => span_parts_1.j5 k hi ii (pre.length : Int) a b) r := by
  have hlen := h.len
  refine Ev.step (fun k => span_parts_1.j5_succ k _ _ _ _ _) ?_
  cases suf with
  | nil =>
    simp only [List.length_nil] at hlen
    rw [h2 (fun s t hq => by cases hq)] at hr
    exact Ev.no (by omega) (Ev.step (fun k => span_parts_1.j6_succ k _ _ _ _ _ _) (Ev.no (by decide) hr))
  | cons s t =>
    simp only [List.length_cons] at hlen
    have hrd : rd_T43 b (pre.length : Int) = s := by rw [h.eq]; exact rdS_mid pre t s
    refine Ev.yes (by omega) (Ev.yes (by omega) ?_)
    rw [hrd]
    refine Ev.step (fun k => span_parts_1.j6_succ k _ _ _ _ _ _) ?_
    by_cases hc : s.f1 ≤ hi
    · refine Ev.yes (decide_eq_true hc) ?_
      rw [h1 s t rfl hc] at hr
      rw [show wrap64 ((pre.length : Int) + 1) = ((pre.length + 1 : Nat) : Int) by unfold wrap64; omega]
      exact hr
    · rw [h2 (fun s' t' hq => by injection hq with e1 e2; rw [← e1]; exact hc)] at hr
      exact Ev.no (by simpa using hc) hr
theorem parts_loop {a b : List S43} (hla : a.length ≤ 4398046511104) (hlb : b.length ≤ 4398046511104) : ∀ (d : Nat) (at_ : Int) (pa sa pb sb : List S43), 0 ≤ at_ → at_ ≤ 65536 → (65536 - at_).toNat ≤ d → Side a pa sa at_ → Side b pb sb at_ →
    ∃ xs, Ev (fun k => span_parts_1.l0 k at_ (pa.length : Int) (pb.length : Int) a b) xs ∧ partsOk a b at_ xs := by
  intro d
  induction d with
  | zero =>
    intro at_ pa sa pb sb h0 h16 hd hA hB
    have ha : sa = [] := by
      cases sa with
      | nil => rfl
      | cons s t => have := hA.hi; have := this.2 (by simp); omega
    have hb : sb = [] := by
      cases sb with
      | nil => rfl
      | cons s t => have := hB.hi; have := this.2 (by simp); omega
    subst ha; subst hb
    have e1 := hA.len
    have e2 := hB.len
    simp only [List.length_nil] at e1 e2
    refine ⟨[], Ev.step (fun k => span_parts_1.l0_succ k _ _ _ _ _) (Ev.no (by omega) (Ev.step (fun k => span_parts_1.j1_succ k _ _ _ _ _ _) (Ev.no (by simp only [decide_eq_true_eq]; omega) (Ev.now _)))), fun n hn => ⟨?_, ?_⟩⟩
    · rw [hA.tail n hn]; rfl
    · rw [hB.tail n hn]; rfl
  | succ d ih =>
    intro at_ pa sa pb sb h0 h16 hd hA hB
    by_cases hend : sa = [] ∧ sb = []
    · obtain ⟨rfl, rfl⟩ := hend
      have e1 := hA.len
      have e2 := hB.len
      simp only [List.length_nil] at e1 e2
      refine ⟨[], Ev.step (fun k => span_parts_1.l0_succ k _ _ _ _ _) (Ev.no (by omega) (Ev.step (fun k => span_parts_1.j1_succ k _ _ _ _ _ _) (Ev.no (by simp only [decide_eq_true_eq]; omega) (Ev.now _)))), fun n hn => ⟨?_, ?_⟩⟩
      · rw [hA.tail n hn]; rfl
      · rw [hB.tail n hn]; rfl
    · have hAh := hA.hi
      have hBh := hB.hi
      have hlt : at_ < 65536 := by
        by_cases ha : sa = []
        · have := hBh.2 (fun hb => hend ⟨ha, hb⟩); omega
        · have := hAh.2 ha; omega
      have hA1 : at_ < hiOf sa at_ := by
        by_cases ha : sa = []
        · rw [ha]; exact hlt
        · exact hAh.2 ha
      have hB1 : at_ < hiOf sb at_ := by
        by_cases hb : sb = []
        · rw [hb]; exact hlt
        · exact hBh.2 hb
      obtain ⟨hi, hhi⟩ : ∃ hi, min (hiOf sa at_) (hiOf sb at_) = hi := ⟨_, rfl⟩
      have hi1 : at_ < hi := by omega
      have hi2 : hi ≤ hiOf sa at_ := by omega
      have hi3 : hi ≤ hiOf sb at_ := by omega
      obtain ⟨pa', sa', hA', a1, a2⟩ := hA.on hi1 hi2
      obtain ⟨pb', sb', hB', b1, b2⟩ := hB.on hi1 hi3
      obtain ⟨xs, hx, hok⟩ := ih hi pa' sa' pb' sb' (by omega) (by omega) (by omega) hA' hB'
      refine ⟨⟨⟨at_, hi⟩, inOf sa at_, inOf sb at_⟩ :: xs, ?_, rfl, hi1, by show hi ≤ 65536; omega, fun n hn hlt' => ⟨hA.const n hn (Int.lt_of_lt_of_le hlt' hi2), hB.const n hn (Int.lt_of_lt_of_le hlt' hi3)⟩, hok⟩
      have hj1 : Ev (fun k => span_parts_1.j1 k at_ (pa.length : Int) (pb.length : Int) true a b) (⟨⟨at_, hi⟩, inOf sa at_, inOf sb at_⟩ :: xs) := by
        refine parts_a b hA hla _ _ (parts_b a hB hlb _ _ _ _ hAh.1 ?_)
        rw [hhi]
        refine Ev.step (fun k => span_parts_1.j3_succ k _ _ _ _ _ _ _ _) ?_
        exact Ev.bind (parts_i (suf' := sa') hA hla b _ a1 a2 _ (parts_k (suf' := sb') hB hlb a _ b1 b2 _ hx)) (Ev.now _)
      refine Ev.step (fun k => span_parts_1.l0_succ k _ _ _ _ _) ?_
      have e1 := hA.len
      have e2 := hB.len
      by_cases hc : (pa.length : Int) < (a.length : Int)
      · exact Ev.yes hc hj1
      · refine Ev.no hc ?_
        have : (pb.length : Int) < (b.length : Int) := by
          have ha : sa = [] := by
            cases sa with
            | nil => rfl
            | cons s t => simp only [List.length_cons] at e1; omega
          cases sb with
          | nil => exact absurd ⟨ha, rfl⟩ hend
          | cons s t => simp only [List.length_cons] at e2; omega
        rw [decide_eq_true this]
        exact hj1
theorem parts_ev {a b : List S43} (hma : mayB a (-1) = true) (hmb : mayB b (-1) = true) : ∃ xs, Ev (fun k => span_parts_1.f k a b) xs ∧ partsOk a b 0 xs := by
  have la := may_len a (-1) (by omega) hma
  have lb := may_len b (-1) (by omega) hmb
  have side : ∀ {a : List S43}, mayB a (-1) = true → Side a [] a 0 := fun {a} h => ⟨rfl, fun s hs => (by cases hs), ⟨-1, by omega, h⟩, fun s t hq => (by
    rw [hq] at h
    obtain ⟨h1, h2, h3, h4⟩ := mayB_cons h
    omega)⟩
  exact parts_loop (by omega) (by omega) 65536 0 [] a [] b (by omega) (by omega) (by omega) (side hma) (side hmb)
/-- parts that are taken, one behind the other -/
def goG (q : Bool → Bool → Bool) : List S55 → List S43 → Option (List S43)
  | [], o => some o
  | x :: xs, o => if q x.f1 x.f2 = true then ((span_adds.f o x.f0.f0 x.f0.f1).bind fun o2 => goG q xs o2) else goG q xs o
theorem goG_ok (q : Bool → Bool → Bool) (hq : q false false = false) (a b : List S43) : ∀ (xs : List S55) (at_ : Int) (o : List S43), partsOk a b at_ xs → 0 ≤ at_ → mayB o (-1) = true → (∀ A s, o = A ++ [s] → s.f1 ≤ at_) →
    (∀ n : Nat, memS o n = (decide ((n : Int) < at_) && q (memS a n) (memS b n))) → ∃ o2, goG q xs o = some o2 ∧ mayB o2 (-1) = true ∧ ∀ n, memS o2 n = q (memS a n) (memS b n)
  | [], at_, o, hp, h0, hm, ht, hmem => ⟨o, rfl, hm, fun n => by
    rw [hmem n]
    by_cases hn : (n : Int) < at_
    · rw [decide_eq_true hn, Bool.true_and]
    · have := hp n (by omega)
      rw [this.1, this.2, hq, Bool.and_false]⟩
  | x :: xs, at_, o, ⟨p1, p2, p3, p4, p5⟩, h0, hm, ht, hmem => by
    simp only [goG]
    by_cases hc : q x.f1 x.f2 = true
    · rw [if_pos hc]
      have hlast : ∀ A s, o = A ++ [s] → s.f0 ≤ x.f0.f0 ∧ s.f1 ≤ x.f0.f1 := fun A s he => by
        have h1 := ht A s he
        have h2 := mayB_low hm s (by rw [he]; simp)
        omega
      obtain ⟨A, s, hs, hs0, hs1, hsm, hsn⟩ := adds_ok o x.f0.f0 x.f0.f1 hm (by omega) (by omega) p3 hlast
      rw [hs]
      simp only [Option.bind_some]
      refine goG_ok q hq a b xs x.f0.f1 (A ++ [s]) p5 (by omega) hsm (fun A' s' he => ?_) (fun n => ?_)
      · have : s = s' := by
          have := congrArg List.getLast? he
          simpa using this
        rw [← this, hs1]
        exact Int.le_refl _
      · rw [hsn n, hmem n, p1]
        by_cases h1 : (n : Int) < at_
        · rw [decide_eq_true h1, decide_eq_true (show (n : Int) < x.f0.f1 by omega), decide_eq_false (show ¬ (at_ ≤ (n : Int) ∧ (n : Int) < x.f0.f1) by omega), Bool.or_false]
        · rw [decide_eq_false h1, Bool.false_and, Bool.false_or]
          by_cases h2 : (n : Int) < x.f0.f1
          · have := p4 n (by omega) h2
            rw [decide_eq_true (show at_ ≤ (n : Int) ∧ (n : Int) < x.f0.f1 by omega), decide_eq_true h2, this.1, this.2, hc]; rfl
          · rw [decide_eq_false (show ¬ (at_ ≤ (n : Int) ∧ (n : Int) < x.f0.f1) by omega), decide_eq_false h2]; rfl
    · rw [if_neg hc]
      refine goG_ok q hq a b xs x.f0.f1 o p5 (by omega) hm (fun A s he => by have := ht A s he; omega) (fun n => ?_)
      rw [hmem n]
      by_cases h1 : (n : Int) < at_
      · rw [decide_eq_true h1, decide_eq_true (show (n : Int) < x.f0.f1 by omega)]
      · rw [decide_eq_false h1, Bool.false_and]
        by_cases h2 : (n : Int) < x.f0.f1
        · have := p4 n (by omega) h2
          rw [this.1, this.2]
          simp only [Bool.not_eq_true] at hc
          rw [hc, Bool.and_false]
        · rw [decide_eq_false h2, Bool.false_and]
theorem bothG_ev (q : Bool → Bool → Bool) (how : Int) (hq : ∀ x y, bothT how x y = q x y) (go' : List S55 → List S43 → Option (List S43)) (hgo : ∀ xs o, go' xs o = goG q xs o) (a b : List S43) (hla : a.length ≤ 4398046511104) (hlb : b.length ≤ 4398046511104) :
    Ev (fun k => (span_May.f k a).bind fun x => if x = true then ((span_May.f k b).bind fun y => if y = true then ((span_parts_1.f k a b).bind fun xs => (go' xs []).bind fun o => some (o, (0 : Int))) else some (([] : List S43), (1 : Int))) else some (([] : List S43), (1 : Int))) (both14R how a b) := by
  have hq0 : q false false = false := by rw [← hq]; exact bothT_ff how
  cases hA : mayB a (-1) with
  | false =>
    have e : both14R how a b = ([], 1) := by unfold both14R; rw [if_neg (by rw [hA]; simp)]
    rw [e]
    exact Ev.bind (span_May_ev a hla) (Ev.no (by rw [hA]; decide) (Ev.now _))
  | true =>
    refine Ev.bind (span_May_ev a hla) (Ev.yes hA ?_)
    cases hB : mayB b (-1) with
    | false =>
      have e : both14R how a b = ([], 1) := by unfold both14R; rw [if_neg (by rw [hB]; simp)]
      rw [e]
      exact Ev.bind (span_May_ev b hlb) (Ev.no (by rw [hB]; decide) (Ev.now _))
    | true =>
      refine Ev.bind (span_May_ev b hlb) (Ev.yes hB ?_)
      obtain ⟨xs, hx, hp⟩ := parts_ev hA hB
      obtain ⟨o, ho, hm, hn⟩ := goG_ok q hq0 a b xs 0 [] hp (Int.le_refl _) rfl (fun A s h => by simp at h) (fun n => by rw [decide_eq_false (by omega)]; rfl)
      refine Ev.bind hx (Ev.call (show _ = some o by rw [hgo]; exact ho) ?_)
      have hok := both14_ok how a b hA hB
      have e : both14R how a b = ((both14R how a b).1, 0) := by rw [← hok.2.1]
      rw [e]
      refine Ev.val (congrArg (fun z => (z, (0 : Int))) ?_)
      exact may_ext _ _ (-1) (Int.le_refl _) hm hok.1 (fun n => by rw [hn n, hok.2.2.2 n, hq])
theorem goAnd_eq : ∀ (xs : List S55) (o : List S43), span_both_fn39.go xs o = goG (fun x y => x && y) xs o
  | [], o => rfl
  | x :: xs, o => by
    have e : span_And_1.f x.f0.f0 x.f0.f1 x.f1 x.f2 = some (x.f1 && x.f2) := by
      unfold span_And_1.f
      cases x.f1 <;> rfl
    simp only [span_both_fn39.go, goG, e, Option.bind_some]
    simp only [goAnd_eq xs]
theorem span_And_ev (a b : List S43) (hla : a.length ≤ 4398046511104) (hlb : b.length ≤ 4398046511104) : Ev (fun k => span_And.f k a b) (both14R 0 a b) := by
  unfold span_And.f span_both_fn39.f
  exact Ev.bind (bothG_ev (fun x y => x && y) 0 (fun x y => rfl) _ goAnd_eq a b hla hlb) (Ev.now _)
theorem goOr_eq : ∀ (xs : List S55) (o : List S43), span_both_fn40.go xs o = goG (fun x y => x || y) xs o
  | [], o => rfl
  | x :: xs, o => by
    have e : span_Or_1.f x.f0.f0 x.f0.f1 x.f1 x.f2 = some (x.f1 || x.f2) := by
      unfold span_Or_1.f
      cases x.f1 <;> rfl
    simp only [span_both_fn40.go, goG, e, Option.bind_some]
    simp only [goOr_eq xs]
theorem span_Or_ev (a b : List S43) (hla : a.length ≤ 4398046511104) (hlb : b.length ≤ 4398046511104) : Ev (fun k => span_Or.f k a b) (both14R 1 a b) := by
  unfold span_Or.f span_both_fn40.f
  exact Ev.bind (bothG_ev (fun x y => x || y) 1 (fun x y => rfl) _ goOr_eq a b hla hlb) (Ev.now _)
theorem goLess_eq : ∀ (xs : List S55) (o : List S43), span_both_fn41.go xs o = goG (fun x y => x && !y) xs o
  | [], o => rfl
  | x :: xs, o => by
    have e : span_Less_1.f x.f0.f0 x.f0.f1 x.f1 x.f2 = some (x.f1 && !x.f2) := by
      unfold span_Less_1.f
      cases x.f1 <;> rfl
    simp only [span_both_fn41.go, goG, e, Option.bind_some]
    simp only [goLess_eq xs]
theorem span_Less_ev (a b : List S43) (hla : a.length ≤ 4398046511104) (hlb : b.length ≤ 4398046511104) : Ev (fun k => span_Less.f k a b) (both14R 2 a b) := by
  unfold span_Less.f span_both_fn41.f
  exact Ev.bind (bothG_ev (fun x y => x && !y) 2 (fun x y => rfl) _ goLess_eq a b hla hlb) (Ev.now _)
end Go.Proofs.Ytlhkjkldjhapeaa.Print
