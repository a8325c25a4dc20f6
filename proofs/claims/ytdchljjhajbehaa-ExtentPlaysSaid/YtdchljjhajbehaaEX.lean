/- Alloc, Take and Free, each as one law. -/
import Derived.Test.YtdchljjhajbehaaEU
import Derived.Test.YtdchljjhajbehaaEV
import Derived.Test.YtdchljjhajbehaaEW
namespace Go.Proofs.Ytdchljjhajbehaa.Ex
open Go.RowKit Go.Proofs.Ytdchljjhajbehaa.Print Go.Proofs.YtdchljjhajbehaaW.PrintWords Go.Proofs.YtdchljjhajbehaaW.PrintLast Go.Proofs.YtdchljjhajbehaaW.PrintMore Go.Proofs.Ytdchljjhajbehaa.Holes
set_option linter.unusedVariables false
set_option linter.unusedSimpArgs false
/-- holes that lie in a map of n blocks -/
structure Good (n : Int) (hs : List Ext) : Prop where
  n1 : 1 ≤ n
  n2 : n ≤ 4096
  pos : ∀ x, x ∈ hs → 1 ≤ x.2 ∧ 0 ≤ x.1 ∧ x.1 + x.2 ≤ n
  len : hs.length ≤ 4096
theorem Good.of {n : Int} {hs : List Ext} {F : Int → Prop} (q : Is hs F n) (h1 : 1 ≤ n) (h2 : n ≤ 4096) : Good n hs := ⟨h1, h2, q.pos, by have := q.length_le (by omega); omega⟩
theorem Good.sm {n : Int} {hs : List Ext} (G : Good n hs) : ∀ x, x ∈ hs → Sm x.1 x.2 := fun x hx => by have := G.pos x hx; have := G.n2; unfold Sm; omega
theorem idxI_none {p : Ext → Bool} {hs : List Ext} (h : idxI p hs = -1) : hs.findIdx? p = none := by
  unfold idxI at h
  split at h
  · omega
  · assumption
theorem idxI_some {p : Ext → Bool} {hs : List Ext} {k : Nat} (h : idxI p hs = (k : Int)) : hs.findIdx? p = some k := by
  unfold idxI at h
  split at h
  · rename_i e; rw [e]; congr 1; omega
  · omega
def hAt (hs : List Ext) (k : Nat) : Ext := hs.getD k (0, 0)
theorem hAt_eq {hs : List Ext} {k : Nat} (hk : k < hs.length) : hAt hs k = hs[k] := by unfold hAt; rw [List.getD_eq_getElem?_getD, List.getElem?_eq_getElem hk]; rfl
def allocS (hs : List Ext) (count : Int) : Int × Ext × List Ext :=
  if count < 1 then (1, (0, 0), hs) else match hs.findIdx? (fitsP count) with
  | none => (2, (0, 0), hs)
  | some k => (0, ((hAt hs k).1, count), hs.take k ++ Holes.rest (hAt hs k) ((hAt hs k).1, count) ++ hs.drop (k + 1))
def takeS (n : Int) (hs : List Ext) (e : Ext) : Int × List Ext :=
  if May n e then match hs.findIdx? (holdsP e) with
  | none => (3, hs)
  | some k => (0, hs.take k ++ Holes.rest (hAt hs k) e ++ hs.drop (k + 1)) else (1, hs)
def freeS (n : Int) (hs : List Ext) (e : Ext) : Int × List Ext :=
  if May n e then match hs.findIdx? (overP e) with
  | some _ => (3, hs)
  | none => (0, freeK hs ((hs.findIdx? (behindP e)).getD hs.length) e) else (1, hs)
theorem alloc_calls (b g c : Nat) (n : Int) (hs : List Ext) (count : Int) (w : World) (h : MapAt w b g c n hs) (G : Good n hs) :
    Calls Try.prog 11 #[.pointer (some ⟨b, 0, none⟩), .int .i64 count] w fun r w' => r = .returned (.tuple #[.agg #[.int .i64 (allocS hs count).2.1.1, .int .i64 (allocS hs count).2.1.2], .int .i64 (allocS hs count).1]) ∧ Left_ w b g n (allocS hs count).2.2 w' := by
  by_cases hc : count < 1
  · have e : allocS hs count = (1, (0, 0), hs) := by unfold allocS; rw [if_pos hc]
    rw [e]
    exact alloc_arg b g c n hs count w h hc
  · rcases idxI_or (fitsP count) hs with ⟨hi, _⟩ | ⟨k, hk, hi, hf, _⟩
    · have e : allocS hs count = (2, (0, 0), hs) := by unfold allocS; rw [if_neg hc, idxI_none hi]
      rw [e]
      exact alloc_full b g c n hs count w h hc (Nat.le_trans G.len (by decide)) hi
    · obtain ⟨x1, x2, hx⟩ : ∃ x1 x2, hs[k] = (x1, x2) := ⟨_, _, rfl⟩
      have e : allocS hs count = (0, (x1, count), hs.take k ++ Holes.rest (x1, x2) (x1, count) ++ hs.drop (k + 1)) := by unfold allocS; rw [if_neg hc, idxI_some hi]; dsimp only; rw [hAt_eq hk, hx]
      have hp := G.pos _ (List.getElem_mem hk)
      have hs' := G.sm _ (List.getElem_mem hk)
      have hf' : count ≤ x2 := by rw [hx] at hf; exact of_decide_eq_true hf
      rw [hx] at hp hs'
      rw [e]
      exact alloc_ok b g c n hs count w h hc (Nat.le_trans G.len (by decide)) k hk hi x1 x2 hx hs' (by unfold Sm at *; dsimp only at *; omega)
theorem take_calls (b g c : Nat) (n : Int) (hs : List Ext) (e1 e2 : Int) (w : World) (h : MapAt w b g c n hs) (G : Good n hs) :
    Calls Try.prog 18 #[.pointer (some ⟨b, 0, none⟩), .agg #[.int .i64 e1, .int .i64 e2]] w fun r w' => r = .returned (.int .i64 (takeS n hs (e1, e2)).1) ∧ Left_ w b g n (takeS n hs (e1, e2)).2 w' := by
  have hn : n ≤ 1000000 := by have := G.n2; omega
  by_cases hm : May n (e1, e2)
  · rcases idxI_or (holdsP (e1, e2)) hs with ⟨hi, _⟩ | ⟨k, hk, hi, hf, _⟩
    · have e : takeS n hs (e1, e2) = (3, hs) := by unfold takeS; rw [if_pos hm, idxI_none hi]
      rw [e]
      exact take_none b g c n hs e1 e2 w h hn hm (Nat.le_trans G.len (by decide)) G.sm hi
    · obtain ⟨x1, x2, hx⟩ : ∃ x1 x2, hs[k] = (x1, x2) := ⟨_, _, rfl⟩
      have e : takeS n hs (e1, e2) = (0, hs.take k ++ Holes.rest (x1, x2) (e1, e2) ++ hs.drop (k + 1)) := by unfold takeS; rw [if_pos hm, idxI_some hi]; dsimp only; rw [hAt_eq hk, hx]
      rw [e]
      exact take_ok b g c n hs e1 e2 w h hn hm (Nat.le_trans G.len (by decide)) G.sm k hk hi x1 x2 hx
  · have e : takeS n hs (e1, e2) = (1, hs) := by unfold takeS; rw [if_neg hm]
    rw [e]
    exact take_arg b g c n hs e1 e2 w h hn hm
theorem freeK_eq {hs : List Ext} {k fr tk : Nat} {e E F : Ext} (h1 : fromK hs k e = (fr, E)) (h2 : toK hs k E = (tk, F)) : freeK hs k e = hs.take fr ++ F :: hs.drop tk := by
  unfold freeK
  rw [h1]
  dsimp only
  rw [h2]
  simp
theorem fromK_n {hs : List Ext} {k : Nat} {e : Ext} (h : k = 0) : fromK hs k e = (k, e) := by unfold fromK; rw [dif_neg (by omega)]
theorem fromK_o {hs : List Ext} {k : Nat} {e : Ext} (h0 : 0 < k) (hk : k ≤ hs.length) {y1 y2 : Int} (hm : k - 1 < hs.length) (hy : hs[k - 1] = (y1, y2)) (hj : ¬ y1 + y2 = e.1) : fromK hs k e = (k, e) := by
  unfold fromK; rw [dif_pos ⟨h0, hk⟩, if_neg (by rw [hy]; exact hj)]
theorem fromK_y {hs : List Ext} {k : Nat} {e : Ext} (h0 : 0 < k) (hk : k ≤ hs.length) {y1 y2 : Int} (hm : k - 1 < hs.length) (hy : hs[k - 1] = (y1, y2)) (hj : y1 + y2 = e.1) : fromK hs k e = (k - 1, (y1, y2 + e.2)) := by
  unfold fromK; rw [dif_pos ⟨h0, hk⟩, if_pos (by rw [hy]; exact hj), hy]
theorem toK_e {hs : List Ext} {e : Ext} : toK hs hs.length e = (hs.length, e) := by unfold toK; rw [dif_neg (by omega)]
theorem toK_o {hs : List Ext} {k : Nat} {e : Ext} (hk : k < hs.length) {x1 x2 : Int} (hx : hs[k] = (x1, x2)) (hr : ¬ e.1 + e.2 = x1) : toK hs k e = (k, e) := by
  unfold toK; rw [dif_pos hk, if_neg (by rw [hx]; exact hr)]
theorem toK_y {hs : List Ext} {k : Nat} {e : Ext} (hk : k < hs.length) {x1 x2 : Int} (hx : hs[k] = (x1, x2)) (hr : e.1 + e.2 = x1) : toK hs k e = (k + 1, (e.1, e.2 + x2)) := by
  unfold toK; rw [dif_pos hk, if_pos (by rw [hx]; exact hr), hx]
theorem free_calls (b g c : Nat) (n : Int) (hs : List Ext) (e1 e2 : Int) (w : World) (h : MapAt w b g c n hs) (G : Good n hs) :
    Calls Try.prog 9 #[.pointer (some ⟨b, 0, none⟩), .agg #[.int .i64 e1, .int .i64 e2]] w fun r w' => r = .returned (.int .i64 (freeS n hs (e1, e2)).1) ∧ Left_ w b g n (freeS n hs (e1, e2)).2 w' := by
  have hn : n ≤ 1000000 := by have := G.n2; omega
  have hn0 : n ≤ 10000 := by have := G.n2; omega
  have hl : hs.length ≤ 10000 := Nat.le_trans G.len (by decide)
  by_cases hm : May n (e1, e2)
  · rcases idxI_or (overP (e1, e2)) hs with ⟨ho, _⟩ | ⟨k, hk, ho, _, _⟩
    · rcases idxI_or (behindP (e1, e2)) hs with ⟨hi, _⟩ | ⟨k, hk, hi, _, _⟩
      · have e : ∀ l, freeK hs hs.length (e1, e2) = l → freeS n hs (e1, e2) = (0, l) := fun l q => by unfold freeS; rw [if_pos hm, idxI_none ho, idxI_none hi]; exact congrArg (Prod.mk 0) q
        by_cases h0 : hs.length = 0
        · rw [e _ (freeK_eq (fromK_n h0) toK_e)]
          exact free_ne b g c n hs e1 e2 w h hn0 hm hl G.pos ho hi h0
        · have hm1 : hs.length - 1 < hs.length := by omega
          obtain ⟨y1, y2, hy⟩ : ∃ y1 y2, hs[hs.length - 1] = (y1, y2) := ⟨_, _, rfl⟩
          by_cases hj : y1 + y2 = e1
          · rw [e _ (freeK_eq (fromK_y (by omega) (Nat.le_refl _) hm1 hy hj) toK_e)]
            exact free_ye b g c n hs e1 e2 w h hn0 hm hl G.pos ho hi (by omega) hm1 y1 y2 hy hj
          · rw [e _ (freeK_eq (fromK_o (by omega) (Nat.le_refl _) hm1 hy hj) toK_e)]
            exact free_oe b g c n hs e1 e2 w h hn0 hm hl G.pos ho hi (by omega) hm1 y1 y2 hy hj
      · have e : ∀ l, freeK hs k (e1, e2) = l → freeS n hs (e1, e2) = (0, l) := fun l q => by unfold freeS; rw [if_pos hm, idxI_none ho, idxI_some hi]; exact congrArg (Prod.mk 0) q
        obtain ⟨x1, x2, hx⟩ : ∃ x1 x2, hs[k] = (x1, x2) := ⟨_, _, rfl⟩
        by_cases h0 : k = 0
        · by_cases hr : e1 + e2 = x1
          · rw [e _ (freeK_eq (fromK_n h0) (toK_y hk hx hr))]
            exact free_ny b g c n hs e1 e2 w h hn0 hm hl G.pos ho k hk hi h0 x1 x2 hx hr
          · rw [e _ (freeK_eq (fromK_n h0) (toK_o hk hx hr))]
            exact free_no b g c n hs e1 e2 w h hn0 hm hl G.pos ho k hk hi h0 x1 x2 hx hr
        · have hm1 : k - 1 < hs.length := by omega
          obtain ⟨y1, y2, hy⟩ : ∃ y1 y2, hs[k - 1] = (y1, y2) := ⟨_, _, rfl⟩
          by_cases hj : y1 + y2 = e1
          · by_cases hr : y1 + (y2 + e2) = x1
            · rw [e _ (freeK_eq (fromK_y (by omega) (Nat.le_of_lt hk) hm1 hy hj) (toK_y hk hx hr))]
              exact free_yy b g c n hs e1 e2 w h hn0 hm hl G.pos ho k hk hi (by omega) hm1 y1 y2 hy hj x1 x2 hx hr
            · rw [e _ (freeK_eq (fromK_y (by omega) (Nat.le_of_lt hk) hm1 hy hj) (toK_o hk hx hr))]
              exact free_yo b g c n hs e1 e2 w h hn0 hm hl G.pos ho k hk hi (by omega) hm1 y1 y2 hy hj x1 x2 hx hr
          · by_cases hr : e1 + e2 = x1
            · rw [e _ (freeK_eq (fromK_o (by omega) (Nat.le_of_lt hk) hm1 hy hj) (toK_y hk hx hr))]
              exact free_oy b g c n hs e1 e2 w h hn0 hm hl G.pos ho k hk hi (by omega) hm1 y1 y2 hy hj x1 x2 hx hr
            · rw [e _ (freeK_eq (fromK_o (by omega) (Nat.le_of_lt hk) hm1 hy hj) (toK_o hk hx hr))]
              exact free_oo b g c n hs e1 e2 w h hn0 hm hl G.pos ho k hk hi (by omega) hm1 y1 y2 hy hj x1 x2 hx hr
    · have e : freeS n hs (e1, e2) = (3, hs) := by unfold freeS; rw [if_pos hm, idxI_some ho]
      rw [e]
      exact free_none b g c n hs e1 e2 w h hn hm hl G.sm (by omega)
  · have e : freeS n hs (e1, e2) = (1, hs) := by unfold freeS; rw [if_neg hm]
    rw [e]
    exact free_arg b g c n hs e1 e2 w h hn hm
end Go.Proofs.Ytdchljjhajbehaa.Ex
