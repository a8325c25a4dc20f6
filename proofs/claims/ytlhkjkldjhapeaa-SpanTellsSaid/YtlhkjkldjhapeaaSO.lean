-- The document's places of spans: one behind the other, how many are below one, whether one is there.
import Derived.Test.YtlhkjkldjhapeaaPrint0
import Derived.Test.YtlhkjkldjhapeaaPrint6
import Derived.Test.YtlhkjkldjhapeaaPrint7
import Derived.Test.YtlhkjkldjhapeaaPrint8
import Derived.Test.YtlhkjkldjhapeaaSU
set_option linter.unusedVariables false
set_option linter.unusedSimpArgs false
namespace Go.Proofs.Ytlhkjkldjhapeaa.Print
open Go.RowKit Go.Proofs.YtlhkjkldjhapeaaW.PrintWords Go.Proofs.YtlhkjkldjhapeaaW.PrintMore
def placesR (q : List S43) : List Int := mems (memS q) (topS q).toNat
theorem places_in (q : List S43) (hl : q.length ≤ 4398046511104) (pre : List S43) (s : S43) (post : List S43) (hq : q = pre ++ s :: post) (h0 : 0 ≤ s.f0) (h01 : s.f0 < s.f1) (h16 : s.f1 ≤ 65536) (r : List Int × Int)
    (hr : Ev (fun k => peristyleref14_Places.l0 k q (mems (memS q) s.f1.toNat) ((pre.length + 1 : Nat) : Int)) r) : ∀ (d c : Nat), c + d = s.f1.toNat → s.f0 ≤ (c : Int) →
    Ev (fun k => peristyleref14_Places.l1 k q (mems (memS q) c) (pre.length : Int) (c : Int)) r := by
  have hlen : pre.length < q.length := by rw [hq]; simp
  have hat : rd_T43 q (pre.length : Int) = s := by rw [rdS_get _ _ hlen]; simp [hq]
  intro d
  induction d with
  | zero =>
    intro c hc h
    have e : wrap64 ((pre.length : Int) + 1) = ((pre.length + 1 : Nat) : Int) := by unfold wrap64; omega
    refine Ev.step (fun k => peristyleref14_Places.l1_succ k _ _ _ _) (Ev.yes (by omega) (Ev.yes (by omega) ?_))
    rw [hat]
    refine Ev.no (by omega) ?_
    rw [e, show c = s.f1.toNat by omega]
    exact hr
  | succ d ih =>
    intro c hc h
    have e : wrap64 ((c : Int) + 1) = ((c + 1 : Nat) : Int) := by unfold wrap64; omega
    have hm : memS q c = true := by
      rw [hq, memS_append, memS_cons, decide_eq_true (by omega)]
      simp
    have hlc := cnt_le (memS q) c
    rw [← mems_len] at hlc
    refine Ev.step (fun k => peristyleref14_Places.l1_succ k _ _ _ _) (Ev.yes (by omega) (Ev.yes (by omega) ?_))
    rw [hat]
    refine Ev.yes (by omega) (Ev.yes (by omega) ?_)
    have hstep : mems (memS q) c ++ [(c : Int)] = mems (memS q) (c + 1) := by simp only [mems]; rw [if_pos hm]
    rw [e, hstep]
    exact ih (c + 1) (by omega) (by omega)
theorem places_loop (q : List S43) (hl : q.length ≤ 4398046511104) (hm : mayB q (-1) = true) : ∀ (post pre : List S43) (n : Nat), q = pre ++ post → mayB post ((n : Int) - 1) = true → (∀ k, n ≤ k → memS pre k = false) → (post = [] → n = (topS q).toNat) →
    Ev (fun k => peristyleref14_Places.l0 k q (mems (memS q) n) (pre.length : Int)) (placesR q, 0)
  | [], pre, n, hq, hp, hk, he => by
    have hlen : q.length = pre.length := by rw [hq]; simp
    refine Ev.step (fun k => peristyleref14_Places.l0_succ k _ _ _) (Ev.no (by omega) (Ev.val ?_))
    unfold placesR
    rw [he rfl]
  | s :: post, pre, n, hq, hp, hk, he => by
    have hlen : pre.length < q.length := by rw [hq]; simp
    have hat : rd_T43 q (pre.length : Int) = s := by rw [rdS_get _ _ hlen]; simp [hq]
    obtain ⟨h1, h2, h3, h4⟩ := mayB_cons hp
    obtain ⟨f, hf⟩ := Int.eq_ofNat_of_zero_le (show 0 ≤ s.f0 by omega)
    have hskip : mems (memS q) f = mems (memS q) n := by
      obtain ⟨d, rfl⟩ := Nat.exists_eq_add_of_le (show n ≤ f by omega)
      refine mems_skip _ n d (fun k hk1 hk2 => ?_)
      rw [hq, memS_append, hk k hk1, memS_cons, decide_eq_false (by omega)]
      simp only [Bool.false_or]
      cases hb : memS post k
      · rfl
      · have := (memS_top h4 k hb).2
        omega
    refine Ev.step (fun k => peristyleref14_Places.l0_succ k _ _ _) (Ev.yes (by omega) (Ev.yes (by omega) ?_))
    rw [hat, hf, ← hskip]
    obtain ⟨t, ht⟩ := Int.eq_ofNat_of_zero_le (show 0 ≤ s.f1 by omega)
    refine places_in q hl pre s post hq (by omega) h2 h3 _ ?_ (s.f1.toNat - f) f (by omega) (by omega)
    have hpl : ((pre.length + 1 : Nat) : Int) = ((pre ++ [s]).length : Int) := by simp
    rw [hpl]
    refine places_loop q hl hm post (pre ++ [s]) s.f1.toNat (by rw [hq]; simp) (mayB_mono h4 (by omega)) (fun k hk1 => ?_) (fun hpo => ?_)
    · rw [memS_append, hk k (by omega), memS_cons, decide_eq_false (by omega)]
      rfl
    · rw [hq, hpo, topS_snoc]
theorem ref14_Places_ev (q : List S43) (hl : q.length ≤ 4398046511104) (hm : mayB q (-1) = true) : Ev (fun k => peristyleref14_Places.f k q) (placesR q, 0) := by
  unfold peristyleref14_Places.f
  refine Ev.bind (ref14_May_ev q hl) (Ev.yes hm ?_)
  exact places_loop q hl hm q [] 0 rfl (mayB_mono hm (by omega)) (fun k _ => rfl) (fun h => by subst h; rfl)
theorem places_words {l : List Int} (h : mayW l = true) : placesR (runsTo (memW l) (64 * l.length)) = memsW l := by
  have hok := spans_ok l h
  have hl := (mayW_norm h).1
  have hp : memS (runsTo (memW l) (64 * l.length)) = memW l := funext hok.2
  have htop := topS_le hok.1
  unfold placesR memsW
  have hro := (runs_ok (memW l) (64 * l.length) (by omega)).2.1
  have hle : (topS (runsTo (memW l) (64 * l.length))).toNat ≤ 64 * l.length := by
    rcases hro with h0 | h0
    · rw [h0]; show (0 : Int).toNat ≤ _; exact Nat.zero_le _
    · omega
  have hnone : ∀ k, (topS (runsTo (memW l) (64 * l.length))).toNat ≤ k → memW l k = false := by
    intro k hk
    cases hb : memW l k
    · rfl
    · have := (memS_top hok.1 k (by rw [hok.2 k]; exact hb)).1
      omega
  rw [hp]
  obtain ⟨d, hd⟩ := Nat.exists_eq_add_of_le hle
  have hs := mems_skip (memW l) (topS (runsTo (memW l) (64 * l.length))).toNat d (fun k h1 _ => hnone k h1)
  rw [← hd] at hs
  exact hs.symm
theorem ref14_rank_loop (l : List Int) (hl : l.length ≤ 1024) (a : Int) : ∀ (d i : Nat), i + d = cnt (memW l) (min a.toNat (64 * l.length)) → Ev (fun k => peristyleref14_Rank.l0 k a (memsW l) (i : Int)) (cnt (memW l) (min a.toNat (64 * l.length)) : Int) := by
  have hlen := memsW_len l
  have hcl := cnt_le (memW l) (64 * l.length)
  unfold countW at hlen
  have hmono := cnt_mono (memW l) (show min a.toNat (64 * l.length) ≤ 64 * l.length from Nat.min_le_right _ _)
  intro d
  induction d with
  | zero =>
    intro i h
    refine Ev.step (fun k => peristyleref14_Rank.l0_succ k _ _ _) ?_
    by_cases hi : i < (memsW l).length
    · refine Ev.yes (by omega) (Ev.yes (by omega) (Ev.no ?_ (Ev.val (by omega))))
      obtain ⟨n, h1, h2, h3⟩ := mems_idx (memW l) (64 * l.length) i (by omega)
      have := mems_at (memW l) (64 * l.length) n h1 h2
      rw [h3] at this
      show ¬ rd (mems (memW l) (64 * l.length)) (i : Int) < a
      rw [this]
      intro hlt
      have hm2 := cnt_mono (memW l) (show n + 1 ≤ min a.toNat (64 * l.length) by omega)
      simp only [cnt, if_pos h2] at hm2
      omega
    · exact Ev.no (by omega) (Ev.val (by omega))
  | succ d ih =>
    intro i h
    obtain ⟨n, h1, h2, h3⟩ := mems_idx (memW l) (64 * l.length) i (by omega)
    have hn := mems_at (memW l) (64 * l.length) n h1 h2
    rw [h3] at hn
    have e : wrap64 ((i : Int) + 1) = ((i + 1 : Nat) : Int) := by unfold wrap64; omega
    refine Ev.step (fun k => peristyleref14_Rank.l0_succ k _ _ _) (Ev.yes (by omega) (Ev.yes (by omega) (Ev.yes ?_ ?_)))
    · show rd (mems (memW l) (64 * l.length)) (i : Int) < a
      rw [hn]
      refine Int.lt_of_not_ge (fun hge => ?_)
      have hm2 := cnt_mono (memW l) (show min a.toNat (64 * l.length) ≤ n by omega)
      omega
    · rw [e]
      exact ih (i + 1) (by omega)
theorem ref14_has_loop (q : List S43) (hl : q.length ≤ 4398046511104) (hm : mayB q (-1) = true) (a : Int) : ∀ (d i : Nat), i + d = q.length → Ev (fun k => peristyleref14_Has.l0 k q a (i : Int)) ((q.drop i).any (fun s => decide (s.f0 ≤ a ∧ a < s.f1)))
  | 0, i, h => by
    rw [List.drop_eq_nil_of_le (by omega)]
    exact Ev.step (fun k => peristyleref14_Has.l0_succ k _ _ _) (Ev.no (by omega) (Ev.step (fun k => peristyleref14_Has.j1_succ k _ _ _ _) (Ev.no (by decide) (Ev.now _))))
  | d + 1, i, h => by
    have e : wrap64 ((i : Int) + 1) = ((i + 1 : Nat) : Int) := by unfold wrap64; omega
    have hd : q.drop i = rd_T43 q (i : Int) :: q.drop (i + 1) := by rw [rdS_get _ _ (by omega)]; exact List.drop_eq_getElem_cons (by omega)
    have ih := ref14_has_loop q hl hm a d (i + 1) (by omega)
    rw [hd, List.any_cons]
    refine Ev.step (fun k => peristyleref14_Has.l0_succ k _ _ _) (Ev.yes (by omega) (Ev.bind (ref14_May_ev q hl) ?_))
    rw [hm]
    refine Ev.step (fun k => peristyleref14_Has.j1_succ k _ _ _ _) (Ev.yes rfl (Ev.yes (by omega) (Ev.yes (by omega) ?_)))
    rw [e]
    by_cases h1 : (rd_T43 q (i : Int)).f0 ≤ a
    · refine Ev.yes h1 ?_
      by_cases h2 : a < (rd_T43 q (i : Int)).f1
      · exact Ev.yes h2 (Ev.val (by simp [h1, h2]))
      · refine Ev.no h2 ?_
        rw [decide_eq_false (fun hh => h2 hh.2), Bool.false_or]
        exact ih
    · refine Ev.no (by omega) ?_
      rw [decide_eq_false (fun hh => h1 hh.1), Bool.false_or]
      exact ih
theorem ref14_Has_ev {l : List Int} (h : mayW l = true) (a : Int) : Ev (fun k => peristyleref14_Has.f k (runsTo (memW l) (64 * l.length)) a) (hasR l a) := by
  have hok := spans_ok l h
  have hl := (mayW_norm h).1
  have hlen := runs_len (memW l) (64 * l.length)
  have hloop := ref14_has_loop _ (by omega) hok.1 a _ 0 (Nat.zero_add _)
  rw [List.drop_zero] at hloop
  unfold peristyleref14_Has.f
  have e : (runsTo (memW l) (64 * l.length)).any (fun s => decide (s.f0 ≤ a ∧ a < s.f1)) = hasR l a := by
    unfold hasR
    rw [h, Bool.true_and]
    by_cases h0 : 0 ≤ a
    · obtain ⟨m, rfl⟩ := Int.eq_ofNat_of_zero_le h0
      rw [decide_eq_true h0, Int.toNat_natCast, Bool.true_and, ← hok.2 m]
      rfl
    · rw [decide_eq_false h0, Bool.false_and, List.any_eq_false]
      intro s hs
      have := mayB_low hok.1 s hs
      simp only [decide_eq_true_eq]
      omega
  rw [← e]
  exact hloop
theorem ref14_same_loop (q : List S43) (hl : q.length ≤ 4398046511104) : ∀ (d i : Nat), i + d = q.length → Ev (fun k => peristyleref14_Same.l0 k q q (i : Int)) true
  | 0, i, h => Ev.step (fun k => peristyleref14_Same.l0_succ k _ _ _) (Ev.no (by omega) (Ev.now _))
  | d + 1, i, h => by
    have e : wrap64 ((i : Int) + 1) = ((i + 1 : Nat) : Int) := by unfold wrap64; omega
    refine Ev.step (fun k => peristyleref14_Same.l0_succ k _ _ _) (Ev.yes (by omega) (Ev.yes (by omega) (Ev.yes (by omega) (Ev.no (by simp) ?_))))
    rw [e]
    exact ref14_same_loop q hl d (i + 1) (by omega)
theorem ref14_Same_self (q : List S43) (hl : q.length ≤ 4398046511104) : Ev (fun k => peristyleref14_Same.f k q q) true := by
  unfold peristyleref14_Same.f
  exact Ev.yes rfl (ref14_same_loop q hl q.length 0 (by omega))
end Go.Proofs.Ytlhkjkldjhapeaa.Print
