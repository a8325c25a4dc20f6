/- slices.IndexFunc and ContainsFunc of extents, by any closure; may. -/
import Derived.Test.YtdchljjhajbehaaEK
namespace Go.Proofs.Ytdchljjhajbehaa.Ex
open Go.RowKit Go.Proofs.Ytdchljjhajbehaa.Print Go.Proofs.YtdchljjhajbehaaW.PrintWords Go.Proofs.YtdchljjhajbehaaW.PrintLast Go.Proofs.YtdchljjhajbehaaW.PrintMore Go.Proofs.Ytdchljjhajbehaa.Holes
set_option linter.unusedVariables false
set_option linter.unusedSimpArgs false
/-- the place of the first extent of which something is true; -1: none -/
def idxI (p : Ext → Bool) (hs : List Ext) : Int := match hs.findIdx? p with
  | some k => (k : Int)
  | none => -1
theorem idxI_hit {p : Ext → Bool} {hs : List Ext} {k : Nat} (hk : k < hs.length) (h1 : p hs[k] = true) (h2 : ∀ j (hj : j < hs.length), j < k → p hs[j] = false) : idxI p hs = (k : Int) := by
  have : hs.findIdx? p = some k := List.findIdx?_eq_some_iff_getElem.2 ⟨hk, h1, fun j hj => by rw [h2 j (by omega) hj]; simp⟩
  unfold idxI
  rw [this]
theorem idxI_miss {p : Ext → Bool} {hs : List Ext} (h : ∀ j (hj : j < hs.length), p hs[j] = false) : idxI p hs = -1 := by
  have : hs.findIdx? p = none := List.findIdx?_eq_none_iff.2 fun x hx => by
    obtain ⟨j, hj, rfl⟩ := List.getElem_of_mem hx
    exact h j hj
  unfold idxI
  rw [this]
theorem idxI_or (p : Ext → Bool) (hs : List Ext) : (idxI p hs = -1 ∧ ∀ h, h ∈ hs → p h = false) ∨ ∃ k : Nat, ∃ hk : k < hs.length, idxI p hs = (k : Int) ∧ p hs[k] = true ∧ ∀ j (hj : j < hs.length), j < k → p hs[j] = false := by
  cases h : hs.findIdx? p with
  | none =>
    left
    exact ⟨by unfold idxI; rw [h], fun x hx => List.findIdx?_eq_none_iff.1 h x hx⟩
  | some k =>
    right
    obtain ⟨hk, h1, h2⟩ := List.findIdx?_eq_some_iff_getElem.1 h
    exact ⟨k, hk, by unfold idxI; rw [h], h1, fun j hj hjk => by simpa using h2 j hjk⟩
/-- a call of a closure that captures -/
theorem goesC_ {P : Program} {ops : Array Oper} {Q : Exit → Act → World → Prop} {rest : List Oper} {oi : Oper} {a : Act} {w : World} (N : Option Tmp) (hd : oi.dst = N) (hg : oi.guard = none) {f : FuncId} {x : Operand} {xs_ : Array Operand} {ts : Array TypeId} {args lb : Array Value} (he : ∀ args W, (callFunc f args).run P W = .ok (.enter f args) W)
    (hop : oi.op = .call { callee := .value x, args := xs_, argTypes := ts }) (hx : a.eval x = .func (.func f) #[] lb) (hargs : xs_.map a.eval ++ lb = args)
    (h : Calls P f args w fun e w' => ∃ v, e = .returned v ∧ wpList P ops Q rest (a.put N v) w') : wpList P ops Q (oi :: rest) a w := by
  refine wpList_plain hg fun K hK => ?_
  have hrun : (execOp a.eval oi).run P w = .ok (.enter f args) w := by
    unfold execOp
    simp [hop, resolve, hx, Deferred.ofValue, invoke, hargs, he]
  unfold Oper.wp
  rw [hrun, Oper.upon_enter]
  refine h.mono fun e w'' hh => ?_
  obtain ⟨v, rfl, hk⟩ := hh
  subst hd
  exact hK _ _ hk
set_option maxHeartbeats 8000000 in
set_option maxRecDepth 100000 in
theorem indexFunc_calls (fid : Nat) (lb : Array Value) (p : Ext → Bool) (eg : ∀ args W, (callFunc fid args).run Try.prog W = .ok (.enter fid args) W) (g c : Nat) (hs : List Ext) (w : World) (hr : Row w g hs.length c (cellsE hs)) (hn : hs.length ≤ 1000000)
    (hcall : ∀ k (hk : k < hs.length) (W : World), Below w.heap.size w W → Calls Try.prog fid (#[.agg #[.int .i64 hs[k].1, .int .i64 hs[k].2]] ++ lb) W fun e W' => e = .returned (.bool (p hs[k])) ∧ Below W.heap.size W W') :
    Calls Try.prog 28 #[.slice (some ⟨g, 0, none⟩) hs.length c, .func (.func fid) #[] lb] w fun e w' => e = .returned (.int .i64 (idxI p hs)) ∧ Below w.heap.size w w' := by
  have HR := Aside0.mk hr
  have HC := Aside0.mk hcall
  have EG := Aside0.mk eg
  have hN := Aside0.mk hn
  clear hr hcall eg
  go_enter Try.func28, Try.ntmps28
  go_wp2
  go_loopw [5, 8] (fun _ v8 wr => ∃ kk : Nat, Aside0 (kk ≤ hs.length) ∧ v8 = .int .i64 (kk : Int) ∧ Aside0 (Below w.heap.size w wr) ∧ Aside0 (∀ j (hj : j < hs.length), j < kk → p hs[j] = false)) (fun _ v8 _ => hs.length - (intOf v8).toNat)
  case atStart => exact ⟨0, ⟨Nat.zero_le _⟩, rfl, ⟨Below.refl _ _⟩, ⟨fun j hj h => absurd h (Nat.not_lt_zero j)⟩⟩
  case round =>
    obtain ⟨kk, hkk, rfl, HB, HA⟩ := hrel
    by_cases hlt : kk < hs.length
    · have hltz : (kk : Int) < (hs.length : Int) := by omega
      have hx := (HR.out.below HB.out).ext kk hlt
      have hx0 := hx.1
      have hx1 := hx.2
      obtain ⟨x, hxe⟩ : ∃ x, x = hs[kk] := ⟨_, rfl⟩
      rw [← hxe] at hx0 hx1
      have HX := Aside0.mk hxe
      have HLT := Aside0.mk hlt
      have hc := HC.out kk hlt wr HB.out
      rw [← hxe] at hc
      clear hx hxe
      cases hq : p x with
      | true =>
        rw [hq] at hc
        have HQ := Aside0.mk hq
        clear hq
        have HC2 := Aside0.mk hc
        clear hc
        go_wp2_with (rw [EG.out, Oper.upon_enter]; refine HC2.out.mono ?_; rintro e w8 ⟨rfl, hb⟩; have HB8 := Aside0.mk hb; clear hb)
        go_ret
        exact ⟨by rw [idxI_hit HLT.out (by rw [← HX.out]; exact HQ.out) HA.out]; rfl, below_then HB.out HB.out.size HB8.out⟩
      | false =>
        rw [hq] at hc
        have HQ := Aside0.mk hq
        clear hq
        have HC2 := Aside0.mk hc
        clear hc
        go_wp2_with (rw [EG.out, Oper.upon_enter]; refine HC2.out.mono ?_; rintro e w8 ⟨rfl, hb⟩; have HB8 := Aside0.mk hb; clear hb)
        go_roundw
        case rel => exact ⟨kk + 1, ⟨HLT.out⟩, by first | rfl | (go_num; done) | (simp; omega), ⟨below_then HB.out HB.out.size HB8.out⟩, ⟨fun j hj hjk => by
          by_cases e : j = kk
          · subst e; rw [← HX.out]; exact HQ.out
          · exact HA.out j hj (by omega)⟩⟩
        case measure => have := HLT.out; have := hN.out; first | (show hs.length - (wrap64 ((kk : Int) + 1)).toNat < hs.length - ((kk : Int)).toNat; unfold wrap64; omega) | (simp [intOf]; omega)
    · have hltz : ¬ (kk : Int) < (hs.length : Int) := by omega
      have HE := Aside0.mk (show kk = hs.length by have := hkk.out; omega)
      go_wp2
      go_ret
      exact ⟨by rw [idxI_miss fun j hj => HA.out j hj (by rw [HE.out]; exact hj)]; rfl, HB.out⟩
set_option maxHeartbeats 4000000 in
theorem containsFunc_calls (fid : Nat) (lb : Array Value) (p : Ext → Bool) (eg : ∀ args W, (callFunc fid args).run Try.prog W = .ok (.enter fid args) W) (g c : Nat) (hs : List Ext) (w : World) (hr : Row w g hs.length c (cellsE hs)) (hn : hs.length ≤ 1000000)
    (hcall : ∀ k (hk : k < hs.length) (W : World), Below w.heap.size w W → Calls Try.prog fid (#[.agg #[.int .i64 hs[k].1, .int .i64 hs[k].2]] ++ lb) W fun e W' => e = .returned (.bool (p hs[k])) ∧ Below W.heap.size W W') :
    Calls Try.prog 25 #[.slice (some ⟨g, 0, none⟩) hs.length c, .func (.func fid) #[] lb] w fun e w' => e = .returned (.bool (decide (0 ≤ idxI p hs))) ∧ Below w.heap.size w w' := by
  have H := Aside0.mk (indexFunc_calls fid lb p eg g c hs w hr hn hcall)
  clear hr hcall
  go_enter Try.func25, Try.ntmps25
  go_wp2_with (go_at_call 28; refine H.out.mono ?_; rintro e w8 ⟨rfl, hb⟩; have HB8 := Aside0.mk hb; clear hb)
  go_ret
  exact ⟨rfl, HB8.out⟩
end Go.Proofs.Ytdchljjhajbehaa.Ex
