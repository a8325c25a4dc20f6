-- Numbers taken back: what the program's frame and the document's tell of any bytes.
import Derived.Test.YtcencpedgcdanaaPrint3
import Derived.Test.YtcencpedgcdanaaPrint5
import Derived.Test.YtcencpedgcdanaaPrint6
import Derived.Test.YtcencpedgcdanaaSF
set_option linter.unusedVariables false
set_option linter.unusedSimpArgs false
namespace Go.Proofs.Ytcencpedgcdanaa.Print
open Go.RowKit Go.Proofs.YtcencpedgcdanaaW.PrintWords Go.Proofs.YtcencpedgcdanaaW.PrintMore
def accF (m : Int) : Int → List Int → List Int
  | _, [] => []
  | x, w :: ws => wrap64 (wrap64 (x + m) + w) :: accF m (wrap64 (wrap64 (x + m) + w)) ws
theorem accF_length (m : Int) : ∀ (ws : List Int) (x : Int), (accF m x ws).length = ws.length
  | [], _ => rfl
  | w :: ws, x => by simp only [accF, List.length_cons, accF_length m ws]
theorem accF_InI (m : Int) : ∀ (ws : List Int) (x : Int), ∀ y, y ∈ accF m x ws → InI y
  | [], _, y, h => by simp [accF] at h
  | w :: ws, x, y, h => by
    simp only [accF] at h
    rcases List.mem_cons.1 h with rfl | h
    · exact InI_wrap64 _
    · exact accF_InI m ws _ y h
theorem accF_steps (m : Int) : ∀ (r : List Int) (x : Int), InI x → (∀ y, y ∈ r → InI y) → accF m x (lessL (stepsL (x :: r)) m) = r
  | [], x, hx, hr => rfl
  | b :: r, x, hx, hr => by
    have hb := hr b (List.mem_cons_self ..)
    have e : wrap64 (wrap64 (x + m) + wrap64 (wrap64 (b - x) - m)) = b := by
      unfold InI at hb
      unfold wrap64
      omega
    show wrap64 (wrap64 (x + m) + wrap64 (wrap64 (b - x) - m)) :: accF m (wrap64 (wrap64 (x + m) + wrap64 (wrap64 (b - x) - m))) (lessL (stepsL (b :: r)) m) = _
    rw [e, accF_steps m r b hb (fun y hy => hr y (List.mem_cons_of_mem _ hy))]
theorem takeR_ok {s : ByteArray} {n w : Int} (h : (takeR s n w).2 = 0) : 0 ≤ n ∧ n ≤ 65536 ∧ ((takeR s n w).1.length : Int) = n ∧ ∀ x, x ∈ (takeR s n w).1 → InI x := by
  unfold takeR at h ⊢
  split at h
  · exact absurd h (by decide)
  · rename_i h1
    rw [if_neg h1]
    split at h
    · rename_i h2
      rw [if_pos h2]
      refine ⟨by omega, by omega, ?_, ?_⟩
      · show ((listS s n.toNat w.toNat).length : Int) = n
        rw [listS_length]; omega
      · intro x hx
        obtain ⟨k, _, rfl⟩ := List.mem_map.1 hx
        exact InI_wordP _
    · exact absurd h (by decide)
def chkF (s : ByteArray) (l : List Int) : List Int × Int := if (putF l).1.toList = s.toList then (l, 0) else ([], 20)
noncomputable def takeF3 (s : ByteArray) (n x m : Int) (s2 : ByteArray) : List Int × Int :=
  if s2.size = 0 then ([], 20) else if (takeR (s2.extract 1 s2.size) (n - 1) (bt s2 0)).2 = 0 then chkF s (x :: accF m x (takeR (s2.extract 1 s2.size) (n - 1) (bt s2 0)).1) else ([], 20)
noncomputable def takeF2 (s : ByteArray) (n x : Int) (s1 : ByteArray) : List Int × Int :=
  if (takeV s1).2.2 = 0 then takeF3 s n x (takeV s1).1 (s1.extract (takeV s1).2.1.toNat s1.size) else ([], 20)
noncomputable def takeF (s : ByteArray) (n : Int) : List Int × Int :=
  if n < 0 ∨ 65536 < n then ([], 1) else if n = 0 then chkF s [] else
  if (takeV s).2.2 = 0 then (if n = 1 then chkF s [(takeV s).1] else takeF2 s n (takeV s).1 (s.extract (takeV s).2.1.toNat s.size)) else ([], 20)
theorem putF_ok {l : List Int} (h : l.length ≤ 65536) : (putF l).2 = 0 := by
  unfold putF
  rw [if_neg (by omega)]
  split
  · rfl
  · split <;> rfl
theorem takeV_in (s : ByteArray) : InI (takeV s).1 ∧ 0 ≤ (takeV s).2.1 ∧ (takeV s).2.1 ≤ (s.size : Int) ∧ ((takeV s).2.2 = 0 → 1 ≤ (takeV s).2.1) ∧ (takeV s).2.1 ≤ 10 := by
  rcases takeV_or s with h | ⟨x, j, h1, h2, h3, h4, h5⟩
  · rw [h]; unfold InI; exact ⟨by decide, by decide, by show (0 : Int) ≤ _; omega, fun h => absurd h (by decide), by decide⟩
  · rw [h5]
    exact ⟨h1, by show (0 : Int) ≤ (j : Int); omega, by show (j : Int) ≤ _; omega, fun _ => by show (1 : Int) ≤ (j : Int); omega, by show (j : Int) ≤ 10; omega⟩
theorem rest_of (s : ByteArray) (a b : Nat) (ha : a ≤ s.size) (hb : b ≤ s.size - a) : (s.extract a s.size).extract b (s.extract a s.size).size = s.extract (a + b) s.size := by
  rw [ByteArray.extract_extract, ByteArray.size_extract]
  congr 1
  omega
theorem rest_size (s : ByteArray) (a : Nat) : (s.extract a s.size).size = s.size - a := by rw [ByteArray.size_extract]; omega
theorem chk_ev (s : ByteArray) {l : List Int} (h6 : l.length ≤ 65536) (hI : ∀ x, x ∈ l → InI x) : Ev (fun k => (frame_Put.f k l).bind fun bt177 => (if false = true then (some (([] : List Int), (20 : Int))) else (if bt177.2 = 0 then (if bt177.1.toList = s.toList then (some (l, 0)) else (some (([] : List Int), 20))) else (some (([] : List Int), 20))))) (chkF s l) := by
  refine Ev.bind (frame_Put_ev hI) (Ev.no (by decide) (Ev.yes (putF_ok h6) ?_))
  by_cases h : (putF l).1.toList = s.toList
  · exact Ev.yes h (Ev.val (if_pos h).symm)
  · exact Ev.no h (Ev.val (if_neg h).symm)
theorem take_acc_loop (s : ByteArray) (m : Int) (ws : List Int) (hw : ws.length ≤ 65535) : ∀ (d i : Nat) (A : List Int) (x : Int), i + d = ws.length → A.length = i → InI x → (∀ y, y ∈ A → InI y) →
    Ev (fun k => frame_Take.l0 k s (A ++ [x]) m ws (ws.length : Int) (i : Int) false) (chkF s (A ++ x :: accF m x (ws.drop i)))
  | 0, i, A, x, h, ha, hx, hA => by
    rw [List.drop_eq_nil_of_le (by omega)]
    refine Ev.step (fun k => frame_Take.l0_succ k _ _ _ _ _ _ _) (Ev.no (by omega) ?_)
    exact chk_ev s (l := A ++ [x]) (by simp; omega) (by
      intro y hy
      rcases List.mem_append.1 hy with h | h
      · exact hA y h
      · rw [List.mem_singleton.1 h]; exact hx)
  | d + 1, i, A, x, h, ha, hx, hA => by
    have hlen : (A ++ [x]).length = i + 1 := by simp; omega
    have e1 : wrap64 (((A ++ [x]).length : Int) - 1) = (A.length : Int) := by rw [hlen]; unfold wrap64; omega
    have e2 : wrap64 ((i : Int) + 1) = ((i + 1 : Nat) : Int) := by unfold wrap64; omega
    refine Ev.step (fun k => frame_Take.l0_succ k _ _ _ _ _ _ _) (Ev.yes (by omega) (Ev.yes (by omega) (Ev.yes (by omega) ?_)))
    rw [e1, e2, rd_mid]
    refine Ev.yes (by omega) (Ev.yes (by omega) (Ev.call (moved_eq _ _) (Ev.call (moved_eq _ _) (Ev.yes (by omega) ?_))))
    have ih := take_acc_loop s m ws hw d (i + 1) (A ++ [x]) (wrap64 (wrap64 (x + m) + rd ws (i : Int))) (by omega) hlen (InI_wrap64 _) (by
      intro y hy
      rcases List.mem_append.1 hy with h | h
      · exact hA y h
      · rw [List.mem_singleton.1 h]; exact hx)
    rw [drop_rd ws i (by omega)]
    simp only [accF]
    rw [List.append_assoc A [x] (wrap64 (wrap64 (x + m) + rd ws (i : Int)) :: accF m (wrap64 (wrap64 (x + m) + rd ws (i : Int))) (ws.drop (i + 1)))] at ih
    exact ih
theorem frame_take3 (s : ByteArray) (n x m : Int) (s2 : ByteArray) (hn : 1 < n ∧ n ≤ 65536) (hs2 : s2.size ≤ 4294967296) (hx : InI x) (b : Bool) (hb : b = decide (s2.size = 0)) :
    Ev (fun k => frame_Take.j3 k s n [x] m b s2 false) (takeF3 s n x m s2) := by
  unfold takeF3
  refine Ev.step (fun k => frame_Take.j3_succ k _ _ _ _ _ _ _) ?_
  by_cases h0 : s2.size = 0
  · rw [if_pos h0]
    exact Ev.yes (by rw [hb]; exact decide_eq_true h0) (Ev.now _)
  rw [if_neg h0]
  have e1 : wrap64 (n - 1) = n - 1 := by unfold wrap64; omega
  have e2 : wrap64 (bt s2 0) = bt s2 0 := by have := bt_range s2 0; unfold wrap64; omega
  refine Ev.no (by rw [hb, decide_eq_false h0]; decide) (Ev.yes (by omega) (Ev.yes (by omega) ?_))
  rw [e1, e2]
  refine Ev.bind (pack_Take_ev _ _ _ (by rw [ByteArray.size_extract]; omega)) ?_
  by_cases h : (takeR (s2.extract 1 s2.size) (n - 1) (bt s2 0)).2 = 0
  · rw [if_pos h]
    have hk := takeR_ok h
    exact Ev.yes h (take_acc_loop s m (takeR (s2.extract 1 s2.size) (n - 1) (bt s2 0)).1 (by omega) (takeR (s2.extract 1 s2.size) (n - 1) (bt s2 0)).1.length 0 [] x (Nat.zero_add _) rfl hx (by simp))
  · rw [if_neg h]
    exact Ev.no h (Ev.now _)
theorem empty_toList (s : ByteArray) : (s.toList == ([] : List UInt8)) = decide (s.size = 0) := by
  rw [Lib.toList_data]
  cases s with | mk d =>
  cases d with | mk l =>
  cases l <;> simp [ByteArray.size]
theorem frame_take_bad3 (s : ByteArray) (n x m : Int) (s2 : ByteArray) : Ev (fun k => frame_Take.j3 k s n [x] m true s2 true) (([] : List Int), 20) :=
  Ev.step (fun k => frame_Take.j3_succ k _ _ _ _ _ _ _) (Ev.yes rfl (Ev.now _))
theorem frame_take2 (s : ByteArray) (n x : Int) (s1 : ByteArray) (hn : 1 < n ∧ n ≤ 65536) (hs1 : s1.size ≤ 4294967296) (hx : InI x) :
    Ev (fun k => frame_Take.j1 k s n [x] s1 false) (takeF2 s n x s1) := by
  unfold takeF2
  have hv := takeV_in s1
  refine Ev.step (fun k => frame_Take.j1_succ k _ _ _ _ _) (Ev.yes (by omega) (Ev.bind (vint_Take_ev s1 (by omega)) (Ev.no (by decide) ?_)))
  refine Ev.step (fun k => frame_Take.j2_succ k _ _ _ _ _ _ _) (Ev.yes (by omega) (Ev.yes (by omega) ?_))
  by_cases h : (takeV s1).2.2 = 0
  · rw [if_pos h]
    have hb : ((takeV s1).2.2 != 0) = false := by rw [h]; rfl
    rw [hb]
    refine Ev.no (by decide) ?_
    exact frame_take3 s n x _ _ hn (by rw [ByteArray.size_extract]; omega) hx _ (empty_toList _)
  · rw [if_neg h]
    have hb : ((takeV s1).2.2 != 0) = true := by simpa using h
    rw [hb]
    exact Ev.yes rfl (frame_take_bad3 _ _ _ _ _)
theorem frame_take_bad1 (s : ByteArray) (n x : Int) (s1 : ByteArray) (hn : 0 < n ∧ n ≤ 65536) (hs1 : s1.size ≤ 4294967296) (hx : InI x) :
    Ev (fun k => frame_Take.j1 k s n [x] s1 true) (([] : List Int), 20) := by
  have hv := takeV_in s1
  refine Ev.step (fun k => frame_Take.j1_succ k _ _ _ _ _) ?_
  by_cases h1 : n > 1
  · refine Ev.yes h1 (Ev.bind (vint_Take_ev s1 (by omega)) (Ev.yes rfl ?_))
    exact Ev.step (fun k => frame_Take.j2_succ k _ _ _ _ _ _ _) (Ev.yes (by omega) (Ev.yes (by omega) (Ev.yes rfl (frame_take_bad3 _ _ _ _ _))))
  · exact Ev.no h1 (Ev.bind (frame_Put_ev (l := [x]) (by intro y hy; rw [List.mem_singleton.1 hy]; exact hx)) (Ev.yes rfl (Ev.now _)))
theorem frame_Take_ev (s : ByteArray) (hs : s.size ≤ 4294967296) (n : Int) : Ev (fun k => frame_Take.f k s n) (takeF s n) := by
  have hbad : Ev (fun k => frame_Take.j0 k s n true) (([] : List Int), 1) := Ev.step (fun k => frame_Take.j0_succ k _ _ _) (Ev.yes rfl (Ev.now _))
  unfold frame_Take.f takeF
  by_cases h1 : n < 0
  · rw [if_pos (.inl h1)]; exact Ev.yes h1 hbad
  refine Ev.no h1 ?_
  by_cases h2 : n > 65536
  · rw [if_pos (.inr h2), decide_eq_true h2]; exact hbad
  rw [if_neg (by omega), decide_eq_false h2]
  refine Ev.step (fun k => frame_Take.j0_succ k _ _ _) (Ev.no (by decide) ?_)
  by_cases h0 : n = 0
  · rw [if_pos h0]
    refine Ev.no (by omega) (Ev.step (fun k => frame_Take.j1_succ k _ _ _ _ _) (Ev.no (by omega) ?_))
    exact chk_ev s (l := []) (by simp) (by simp)
  rw [if_neg h0]
  have hv := takeV_in s
  refine Ev.yes (by omega) (Ev.bind (vint_Take_ev s (by omega)) (Ev.yes (by omega) (Ev.yes (by omega) (Ev.yes (by simp) ?_))))
  show Ev (fun k => frame_Take.j1 k s n [(takeV s).1] (s.extract (takeV s).2.1.toNat s.size) ((takeV s).2.2 != 0)) _
  by_cases h : (takeV s).2.2 = 0
  · rw [if_pos h]
    have hb : ((takeV s).2.2 != 0) = false := by rw [h]; rfl
    rw [hb]
    by_cases h3 : n = 1
    · rw [if_pos h3]
      exact Ev.step (fun k => frame_Take.j1_succ k _ _ _ _ _) (Ev.no (by omega) (chk_ev s (l := [(takeV s).1]) (by simp) (by intro y hy; rw [List.mem_singleton.1 hy]; exact hv.1)))
    · rw [if_neg h3]
      exact frame_take2 s n _ _ (by omega) (by rw [ByteArray.size_extract]; omega) hv.1
  · rw [if_neg h]
    have hb : ((takeV s).2.2 != 0) = true := by simpa using h
    rw [hb]
    exact frame_take_bad1 s n _ _ (by omega) (by rw [ByteArray.size_extract]; omega) hv.1
theorem takeF_putF {l : List Int} (hI : ∀ x, x ∈ l → InI x) (h6 : l.length ≤ 65536) : takeF (putF l).1 (l.length : Int) = (l, 0) := by
  have hchk : chkF (putF l).1 l = (l, 0) := by unfold chkF; rw [if_pos rfl]
  unfold takeF
  rw [if_neg (by omega)]
  match l, hI, h6, hchk with
  | [], _, _, hchk => rw [if_pos (show ((([] : List Int).length : Nat) : Int) = 0 from rfl)]; exact hchk
  | [a], hI, _, hchk =>
    have ha : InI a := hI a (List.mem_singleton.2 rfl)
    have hp : (putF [a]).1 = putV a ++ ByteArray.empty := by
      rw [ByteArray.append_empty]
      rfl
    have ht : takeV (putF [a]).1 = (a, (vl (zig a) : Int), 0) := by rw [hp]; exact take_putV ha _
    rw [if_neg (by simp), ht, if_pos rfl, if_pos (by simp)]
    exact hchk
  | a :: b :: r, hI, h6, hchk =>
    have ha : InI a := hI a (List.mem_cons_self ..)
    have hm := leastF_InI (a :: b :: r)
    have hwl := wordsF_length (a :: b :: r)
    have hwd := widL_le (wordsF (a :: b :: r))
    have hmay := wordsF_may (a :: b :: r) h6
    obtain ⟨w, hw⟩ := Int.eq_ofNat_of_zero_le hwd.1
    have htp := take_put (wordsF (a :: b :: r)) w (by rw [← hw]; exact hmay) (lessL_InI _ _)
    have hp : (putF (a :: b :: r)).1 = putV a ++ (putV (leastF (a :: b :: r)) ++ (strOfNums [(w : Int)] ++ (putR (wordsF (a :: b :: r)) (w : Int)).1)) := by
      unfold putF headF
      rw [if_neg (by omega), if_neg (by simp), if_neg (by simp), hw, show (w : Int) % 256 = (w : Int) by omega, ByteArray.append_assoc, ByteArray.append_assoc]
      rfl
    generalize (putF (a :: b :: r)).1 = s at hp hchk ⊢
    generalize (putR (wordsF (a :: b :: r)) (w : Int)).1 = p at hp htp
    have ht : takeV s = (a, (vl (zig a) : Int), 0) := by rw [hp]; exact take_putV ha _
    have hs1 : s.extract (vl (zig a) : Int).toNat s.size = putV (leastF (a :: b :: r)) ++ (strOfNums [(w : Int)] ++ p) := by
      rw [hp]
      exact ByteArray.extract_append_eq_right (by rw [putV_size, Int.toNat_natCast]) (by rw [ByteArray.size_append])
    rw [if_neg (by simp; omega), ht, if_pos rfl, if_neg (by simp; omega)]
    show takeF2 s _ a (s.extract (vl (zig a) : Int).toNat s.size) = _
    rw [hs1]
    have ht2 := take_putV hm (strOfNums [(w : Int)] ++ p)
    unfold takeF2
    have hs2 : (putV (leastF (a :: b :: r)) ++ (strOfNums [(w : Int)] ++ p)).extract (vl (zig (leastF (a :: b :: r))) : Int).toNat (putV (leastF (a :: b :: r)) ++ (strOfNums [(w : Int)] ++ p)).size = strOfNums [(w : Int)] ++ p :=
      ByteArray.extract_append_eq_right (by rw [putV_size, Int.toNat_natCast]) (by rw [ByteArray.size_append])
    rw [ht2, if_pos rfl]
    show takeF3 s _ a (leastF (a :: b :: r)) ((putV (leastF (a :: b :: r)) ++ (strOfNums [(w : Int)] ++ p)).extract (vl (zig (leastF (a :: b :: r))) : Int).toNat (putV (leastF (a :: b :: r)) ++ (strOfNums [(w : Int)] ++ p)).size) = _
    rw [hs2]
    have h1 : (strOfNums [(w : Int)]).size = 1 := by rw [str_size]; rfl
    have hx1 : (strOfNums [(w : Int)] ++ p).extract 1 (strOfNums [(w : Int)] ++ p).size = p :=
      ByteArray.extract_append_eq_right h1.symm (by rw [ByteArray.size_append])
    have hb0 : bt (strOfNums [(w : Int)] ++ p) 0 = (w : Int) := by
      rw [show (0 : Int) = ((0 : Nat) : Int) from rfl, bt_append_left _ _ _ (by omega), bt_str _ (by intro x hx; rw [List.mem_singleton.1 hx]; omega)]
      rfl
    have hn1 : (((a :: b :: r).length : Nat) : Int) - 1 = ((wordsF (a :: b :: r)).length : Int) := by rw [hwl]; simp only [List.length_cons]; omega
    unfold takeF3
    rw [if_neg (by rw [ByteArray.size_append]; omega), hx1, hb0, hn1, htp, if_pos rfl]
    show chkF s (a :: accF (leastF (a :: b :: r)) a (wordsF (a :: b :: r))) = _
    rw [show accF (leastF (a :: b :: r)) a (wordsF (a :: b :: r)) = b :: r from accF_steps _ (b :: r) a ha (fun y hy => hI y (List.mem_cons_of_mem _ hy))]
    exact hchk
theorem takeF_ok (s : ByteArray) (n : Int) : ((takeF s n).1.length ≤ 65536 ∧ ∀ x, x ∈ (takeF s n).1 → InI x) ∧ ((takeF s n).2 = 0 → (putF (takeF s n).1).1.toList = s.toList) := by
  have hno : ∀ e : Int, e ≠ 0 → ((([] : List Int), e).1.length ≤ 65536 ∧ ∀ x, x ∈ (([] : List Int), e).1 → InI x) ∧ ((([] : List Int), e).2 = 0 → (putF (([] : List Int), e).1).1.toList = s.toList) := by
    intro e he
    exact ⟨⟨by simp, by simp⟩, fun h => absurd h he⟩
  have hc : ∀ l : List Int, l.length ≤ 65536 → (∀ x, x ∈ l → InI x) → ((chkF s l).1.length ≤ 65536 ∧ ∀ x, x ∈ (chkF s l).1 → InI x) ∧ ((chkF s l).2 = 0 → (putF (chkF s l).1).1.toList = s.toList) := by
    intro l hl hI
    unfold chkF
    split
    · rename_i h; exact ⟨⟨hl, hI⟩, fun _ => h⟩
    · exact hno 20 (by decide)
  have hv := takeV_in s
  have hone : ∀ x : Int, InI x → ∀ y, y ∈ [x] → InI y := by intro x hx y hy; rw [List.mem_singleton.1 hy]; exact hx
  unfold takeF
  split
  · exact hno 1 (by decide)
  · split
    · exact hc [] (by simp) (by simp)
    · split
      · split
        · exact hc _ (by simp) (hone _ hv.1)
        · unfold takeF2
          split
          · unfold takeF3
            split
            · exact hno 20 (by decide)
            · split
              · rename_i hk
                have hk := takeR_ok hk
                refine hc _ (by simp only [List.length_cons, accF_length]; omega) ?_
                intro y hy
                rcases List.mem_cons.1 hy with rfl | hy
                · exact hv.1
                · exact accF_InI _ _ _ y hy
              · exact hno 20 (by decide)
          · exact hno 20 (by decide)
      · exact hno 20 (by decide)
theorem frame_Size_ev {l : List Int} (hI : ∀ x, x ∈ l → InI x) : Ev (fun k => frame_Size.f k l) ((putF l).1.size : Int) := by
  unfold frame_Size.f putF
  by_cases h6 : l.length > 65536
  · rw [if_pos h6]
    exact Ev.yes (by omega) (Ev.step (fun k => frame_Size.j0_succ k _ _) (Ev.yes rfl (Ev.now _)))
  rw [if_neg h6]
  refine Ev.no (by omega) (Ev.step (fun k => frame_Size.j0_succ k _ _) ?_)
  by_cases h0 : l.length = 0
  · rw [if_pos h0]
    exact Ev.yes (by rw [h0]; rfl) (Ev.now _)
  rw [if_neg h0]
  have hb : ((l.length : Int) == 0) = false := by
    rw [beq_eq_false_iff_ne]
    omega
  rw [hb]
  refine Ev.no (by decide) (Ev.yes (by omega) (Ev.bind (vint_Len_ev (rd_InI hI 0)) ?_))
  by_cases h1 : l.length = 1
  · rw [if_pos h1]
    refine Ev.no (by omega) (Ev.val ?_)
    show _ = ((putV (rd l 0)).size : Int)
    rw [putV_size]
  rw [if_neg h1]
  have hwl := wordsF_length l
  have hwd := widL_le (wordsF l)
  have hp := putR_words l (by omega)
  obtain ⟨w, hw⟩ := Int.eq_ofNat_of_zero_le hwd.1
  refine Ev.yes (by omega) (Ev.bind (frame_steps_ev l (by omega) (by omega)) (Ev.bind (vint_Len_ev (leastF_InI l)) (Ev.bind (pack_Width_ev (wordsF l) (by omega)) (Ev.call (pack_Bytes_eq _ _) (Ev.val ?_)))))
  show wrap64 ((vl (zig (rd l 0)) : Int) + wrap64 (wrap64 ((vl (zig (leastF l)) : Int) + 1) + bytesN ((wordsF l).length : Int) (widL (wordsF l)))) = ((headF l ++ (putR (wordsF l) (widL (wordsF l))).1).size : Int)
  rw [ByteArray.size_append, headF_size, hp.1, hw, bytesN_nat _ w (by omega) (by omega), Int.toNat_natCast]
  have hv1 := vl_le (zig (rd l 0))
  have hv2 := vl_le (zig (leastF l))
  have hmul : (wordsF l).length * w ≤ 65536 * 64 := Nat.mul_le_mul (by omega) (by omega)
  have hz : ((wordsF l).length * w + 7) / 8 ≤ 600000 := by omega
  generalize ((wordsF l).length * w + 7) / 8 = z at hz ⊢
  generalize vl (zig (rd l 0)) = p at hv1 ⊢
  generalize vl (zig (leastF l)) = q at hv2 ⊢
  clear hmul hp hwl hwd hw hb h0 h1 h6 hI
  unfold wrap64
  omega
theorem awake09_ev : Ev (fun k => peristylelaw09_awake.f k) true := by
  have hp : putF [5, 6, 7, 8] = ((⟨#[10, 2, 0]⟩ : ByteArray), 0) := by decide +kernel
  have ht : (⟨#[10, 0, 1, 2]⟩ : ByteArray) = (putF [5, 5, 6]).1 := by decide +kernel
  have hs : (putF [5, 6]).1.size = 3 := by decide +kernel
  have h1 := frame_Put_ev (l := [5, 6, 7, 8]) (by unfold InI; simp)
  rw [hp] at h1
  have h2 := frame_Take_ev (putF [5, 5, 6]).1 (by rw [← ht]; decide) (([5, 5, 6] : List Int).length : Int)
  rw [takeF_putF (l := [5, 5, 6]) (by unfold InI; simp) (by decide), ← ht] at h2
  have h3 := frame_Size_ev (l := [5, 6]) (by unfold InI; simp)
  rw [hs] at h3
  unfold peristylelaw09_awake.f
  refine Ev.bind h1 (Ev.bind h2 (Ev.yes (by rw [Lib.toList_data]) (Ev.yes rfl (Ev.bind (ref01_Same_ev _ _ (by simp)) (Ev.yes (by decide) (Ev.yes rfl (Ev.bind h3 (Ev.val rfl))))))))
theorem putF_small (l : List Int) : (putF l).1.size ≤ 600000 := by
  unfold putF
  split
  · decide
  · split
    · decide
    · split
      · have := putV_le (rd l 0)
        show (putV (rd l 0)).size ≤ _
        omega
      · have hp := putR_words l (by omega)
        have hv1 := vl_le (zig (rd l 0))
        have hv2 := vl_le (zig (leastF l))
        show (headF l ++ (putR (wordsF l) (widL (wordsF l))).1).size ≤ _
        rw [ByteArray.size_append, headF_size]
        omega
theorem rd_replicate (n i : Nat) (f : Int) (h : i < n) : rd (List.replicate n f) (i : Int) = f := by
  rw [rd_get _ _ (by simpa using h)]
  simp
theorem minTo_replicate (f : Int) (n : Nat) : ∀ k, k < n → minTo (List.replicate n f) k = f
  | 0, h => rd_replicate n 0 f h
  | k + 1, h => by
    unfold minTo
    rw [minTo_replicate f n k (by omega), rd_replicate n (k + 1) f h]
    unfold mn
    split <;> rfl
theorem widL_zeros (n : Nat) : widL (List.replicate n 0) = 0 := by
  have h := widL_le (List.replicate n 0)
  have h2 := (widL_le_iff (List.replicate n 0) 0 (by omega)).2 (fun x hx i _ => by rw [List.eq_of_mem_replicate hx, bit_zero])
  omega
theorem even_put {l : List Int} (f : Int) (k : Nat) (hf : InI f) (hl : l.length = k + 2) (h6 : l.length ≤ 65536) (hs : stepsL l = List.replicate (k + 1) f) : putF l = ((putV (rd l 0) ++ putV f) ++ strOfNums [0] ++ strOfNums [], 0) := by
  have hm : leastF l = f := by
    unfold leastF minL
    rw [hs, List.length_replicate]
    exact minTo_replicate f (k + 1) k (by omega)
  have hw : wordsF l = List.replicate (k + 1) 0 := by
    unfold wordsF lessL
    rw [hs, hm, List.map_replicate, Int.sub_self, show wrap64 0 = 0 by unfold wrap64; omega]
  have hd : widL (wordsF l) = 0 := by rw [hw, widL_zeros]
  have hp : (putR (wordsF l) 0).1 = strOfNums [] := by
    have hmay := wordsF_may l h6
    rw [hd] at hmay
    unfold putR
    rw [if_pos hmay]
    show strOfNums (packB (stL (wordsF l) 0) ((wordsF l).length * 0)) = _
    rw [Nat.mul_zero]
    rfl
  unfold putF headF
  rw [if_neg (by omega), if_neg (by omega), if_neg (by omega), hd, hp, hm]
  rfl
theorem even_size {l : List Int} (f : Int) (k : Nat) (hf : InI f) (hl : l.length = k + 2) (h6 : l.length ≤ 65536) (hs : stepsL l = List.replicate (k + 1) f) : (putF l).1.size = vl (zig (rd l 0)) + vl (zig f) + 1 := by
  rw [even_put f k hf hl h6 hs]
  show ((putV (rd l 0) ++ putV f) ++ strOfNums [0] ++ strOfNums []).size = _
  rw [ByteArray.size_append, ByteArray.size_append, ByteArray.size_append, putV_size, putV_size, str_size, str_size]
  rfl
def evenL (f : Int) : Nat → Int → List Int
  | 0, _ => []
  | n + 1, x => x :: evenL f n (wrap64 (x + f))
theorem evenL_length (f : Int) : ∀ (n : Nat) (x : Int), (evenL f n x).length = n
  | 0, _ => rfl
  | n + 1, x => by simp only [evenL, List.length_cons, evenL_length f n]
theorem evenL_InI (f : Int) : ∀ (n : Nat) (x : Int), InI x → ∀ y, y ∈ evenL f n x → InI y
  | 0, _, _, y, h => by simp [evenL] at h
  | n + 1, x, hx, y, h => by
    simp only [evenL] at h
    rcases List.mem_cons.1 h with rfl | h
    · exact hx
    · exact evenL_InI f n _ (InI_wrap64 _) y h
theorem evenL_steps (f : Int) (hf : InI f) : ∀ (n : Nat) (x : Int), InI x → stepsL (evenL f (n + 1) x) = List.replicate n f
  | 0, _, _ => rfl
  | n + 1, x, hx => by
    have ih := evenL_steps f hf n (wrap64 (x + f)) (InI_wrap64 _)
    have e : wrap64 (wrap64 (x + f) - x) = f := by
      unfold InI at hf hx
      unfold wrap64
      omega
    show wrap64 (wrap64 (x + f) - x) :: stepsL (evenL f (n + 1) (wrap64 (x + f))) = _
    rw [ih, e]
    rfl
theorem same_steps (x : Int) : ∀ n : Nat, stepsL (List.replicate (n + 1) x) = List.replicate n 0
  | 0 => rfl
  | n + 1 => by
    have ih := same_steps x n
    show wrap64 (x - x) :: stepsL (List.replicate (n + 1) x) = _
    rw [ih, Int.sub_self, show wrap64 0 = 0 by unfold wrap64; omega]
    rfl
theorem and_small (x : Int) (m n : Nat) (hn : n < 64) (h : m < 2 ^ n) : 0 ≤ Go.bits .and .i64 x (m : Int) ∧ Go.bits .and .i64 x (m : Int) < 2 ^ n := by
  have e : Go.bits .and .i64 x (m : Int) = wordP (fun i => bit x i && bit (m : Int) i) := wordP_of (InI_bits _ _ _) _ (fun i _ => bit_and _ _ i)
  rw [e]
  refine wordP_small _ n hn (fun i hi => ?_)
  by_cases h64 : i < 64
  · rw [bit_nat _ i h64, Nat.testBit_lt_two_pow (Nat.lt_of_lt_of_le h (Nat.pow_le_pow_right (by decide) hi))]
    simp
  · rw [bit_ge _ (by omega)]
    simp
end Go.Proofs.Ytcencpedgcdanaa.Print
