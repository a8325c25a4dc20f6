-- Functions and laws: texts of the session's own and of the kit's print program, joined; what nothing names is left out.
import Derived.RangeFuncLeaves
import Derived.RangeFuncCalls
import Derived.RangeFuncNested
import Derived.RangeFuncBound
import Derived.Shelf.Abstract
import Derived.WalkKit
import Derived.Sort.LoopGhostIn
import Derived.Sort.CutIn
import Derived.TacticsInMore
import Derived.Test.YtdgphlkbmplbpaaGreatVW
section
namespace Go.Proofs.YtdgphlkbmplbpaaGreat.XR
open Go Go.RowKit Go.Proofs.YtdgphlkbmplbpaaGreatW.PrintWords
theorem listIn_first {F : Fence} {n : Nat} {P : Program} {ops : Array Oper} {Q : Exit → Act → World → Prop} {a : Act} {w : World} {rest : List Oper} {o : Oper}
    (hF : F = { Fence.wide with round := F.round }) (ho : ∀ c, o.op ≠ .defer c) (hq : ¬ LetsOut Q)
    (h : wpList P ops (Exit.then (wpListIn F n P ops Q rest) Q) [o] a w) : wpListIn F n P ops Q (o :: rest) a w := by
  have hfn : ∀ f, F.fn f := fun f => by rw [hF]; trivial
  have hdep : F.depth = none := by rw [hF]; rfl
  have hQ' : ¬ LetsOut (Exit.then (wpListIn F n P ops Q rest) Q) := fun ⟨a', w', q⟩ => hq ⟨a', w', q⟩
  simp only [wpList] at h
  simp only [wpListIn]
  by_cases hw : Region.wanted o (yielded ops a.tmps) = true
  · rw [if_pos hw] at h ⊢
    have h := h.resolve_right (fun z => hQ' z.2)
    refine ⟨fun f _ => hfn f, ?_⟩
    have hs : o.semAt F.round a.eval = execOp a.eval o := by
      cases hr : F.round with
      | none => simp only [Oper.semAt_none]
      | some l => exact Oper.semAt_some l a.eval o ho
    rw [hs]
    unfold Oper.wp at h
    cases hr : (execOp a.eval o).run P w with
    | ok x w' =>
      rw [hr] at h
      cases x with
      | enter f args =>
        refine ⟨fun hd => (by rw [hdep] at hd; cases hd), ?_⟩
        have h2 : CallsIn Fence.wide (n - 1) P f args w' _ := callsIn_wide.2 h
        have key : ∀ R, CallsIn Fence.wide (n - 1) P f args w' R → CallsIn F (n - 1) P f args w' R := by
          intro R z
          rw [hF]; exact z
        refine (key _ h2).mono ?_
        intro e w'' q
        cases e with
        | returned v => exact q
        | panicked c => exact q
        | outgrown => exact absurd q hQ'
      | row row args =>
        refine ⟨fun hd => (by rw [hdep] at hd; cases hd), ?_⟩
        intro c cs hroom
        obtain ⟨v, w2, r, s⟩ := h c cs
        refine ⟨v, w2, r, ?_⟩
        have h4 : StepsIn (Machine.fenced P Fence.wide) P (lone (Frame.ofRow P row args .normal) (c :: cs) w') (lone (c.finish v) cs w2) := stepsIn_wide.2 s
        have e1 : Machine.fenced P F = Machine.fenced P Fence.wide := by rw [hF]; rfl
        rw [e1]; exact h4
      | value v => exact h
      | skip => exact h
      | defer d => exact h
      | _ => exact absurd h (by simp [Oper.upon])
    | halt hh w' =>
      rw [hr] at h
      cases hh with
      | panic v => exact h
      | _ => exact absurd h (by simp [Oper.upon])
  · rw [if_neg hw] at h ⊢
    exact ⟨fun f _ => hfn f, h⟩
theorem wp_out {P : Program} {o : Oper} {a : Act} {w : World} {Q : Exit → Act → World → Prop} {K K' : Act → World → Prop} (h : ∀ a w, K a w → K' a w) (hh : o.wp P a w K Q) : o.wp P a w K' (Exit.then K' Q) := by
  unfold Oper.wp at *
  generalize (execOp a.eval o).run P w = r at *
  cases r with
  | ok n w' =>
    cases n <;> simp only [Oper.upon] at hh ⊢ <;>
      first
        | exact h _ _ hh
        | exact Calls.mono hh (fun e w'' he => by cases e <;> first | exact h _ _ he | exact he)
        | exact Rows.mono hh (fun _ _ he => h _ _ he)
        | exact hh
  | halt x w' => cases x <;> simp only [Oper.upon] at hh ⊢ <;> exact hh
theorem listIn_all {F : Fence} {n : Nat} {P : Program} {ops : Array Oper} {Q : Exit → Act → World → Prop} (hF : F = { Fence.wide with round := F.round }) (hq : ¬ LetsOut Q) :
    ∀ (l : List Oper), l.all (fun o => match o.op with | .defer _ => false | _ => true) = true → ∀ a w, wpList P ops Q l a w → wpListIn F n P ops Q l a w
  | [], _, _, _, h => h
  | o :: rest, ho, a, w, h => by
    simp only [List.all_cons, Bool.and_eq_true] at ho
    have ih := listIn_all (n := n) (P := P) (ops := ops) hF hq rest ho.2
    refine listIn_first hF (fun c hc => by have h1 := ho.1; rw [hc] at h1; cases h1) hq ?_
    simp only [wpList] at h ⊢
    by_cases hw : Region.wanted o (yielded ops a.tmps) = true
    · rw [if_pos hw] at h ⊢
      exact .inl (wp_out ih (h.resolve_right (fun z => hq z.2)))
    · rw [if_neg hw] at h ⊢
      exact ih _ _ h
theorem listIn_out {F : Fence} {n : Nat} {P : Program} {ops : Array Oper} {Q : Exit → Act → World → Prop} {a : Act} {w : World} {rest : List Oper} {o : Oper} {N : Tmp} (hN : o.dst = some N) (hF : F = { Fence.wide with round := F.round }) (hq : ¬ LetsOut Q)
    (ho : (o :: rest).all (fun o => match o.op with | .defer _ => false | _ => true) = true) (h : wpList P ops Q (o :: rest) a w) : wpListIn F n P ops Q (o :: rest) a w := listIn_all hF hq _ ho a w h
theorem R_farP {α : Type} {d : Kd α} {e : TypeId} {W : World} {B : Nat} {ok : Nat → Prop} {v : Value} {xs : List α} (h : Kd.R d e W B ok v xs) {g : Nat} {o : Obj} (hg : g < B) : Kd.R d e (W.putObj g o) B ok v xs := by
  have h1 : Kd.R d e W B (fun k_ => B ≤ k_ ∧ ok k_) v xs := Kd.R_mono (Kd.R_bound h) (fun k_ hk => ⟨hk.2.1, hk.1⟩)
  have h2 : Kd.R d e (W.putObj g o) B (fun k_ => B ≤ k_ ∧ ok k_) v xs := Kd.R_step h1 (fun k_ hk _ => World.putObj_heap_other (by have := hk.1; omega))
  exact Kd.R_mono h2 (fun _ hk => hk.2)
theorem below_putObj {B : Nat} {a w : World} (h : Below B a w) {l : Nat} (hl : B ≤ l) (hw : l < w.heap.size) (o : Obj) : Below B a (w.putObj l o) := by
  refine h.grown (grownBy_putObj' w l o) (by omega) (fun k e => by cases e; exact hl)
theorem R_far {α : Type} {d : Kd α} {e : TypeId} {W : World} {B : Nat} {ok : Nat → Prop} {v : Value} {xs : List α} (h : Kd.R d e W B ok v xs) {g j : Nat} {u : Value} (hg : g < B) : Kd.R d e (W.setCell ⟨g, j, none⟩ u) B ok v xs := by
  have h1 : Kd.R d e W B (fun k_ => B ≤ k_ ∧ ok k_) v xs := Kd.R_mono (Kd.R_bound h) (fun k_ hk => ⟨hk.2.1, hk.1⟩)
  have h2 : Kd.R d e (W.setCell ⟨g, j, none⟩ u) B (fun k_ => B ≤ k_ ∧ ok k_) v xs := Kd.R_step h1 (fun k_ hk _ => Below.heap_setCell _ _ _ k_ (by show k_ ≠ g; have := hk.1; omega))
  exact Kd.R_mono h2 (fun _ hk => hk.2)
structure B2 (w w1 X : World) : Prop where
  one : Below w.heap.size w X
  two : Below w1.heap.size w1 X
theorem b2_refl {w w1 : World} (h : Below w.heap.size w w1) : B2 w w1 w1 := ⟨h, Below.refl _ _⟩
theorem b2_step {w w1 X Y : World} (h : B2 w w1 X) (k : Below X.heap.size X Y) : B2 w w1 Y := ⟨h.one.trans (k.mono h.one.size), h.two.trans (k.mono h.two.size)⟩
theorem b2_drew1 {w w1 X : World} (h : B2 w w1 X) : B2 w w1 X.drew := ⟨h.one.drew, h.two.drew⟩
theorem b2_set {w w1 X : World} {g j : Nat} {u : Value} (h : B2 w w1 X) (hp : w.heap.size ≤ g ∧ w1.heap.size ≤ g) : B2 w w1 (X.setCell ⟨g, j, none⟩ u) := ⟨h.one.setCell hp.1 u, h.two.setCell hp.2 u⟩
theorem b2_size {w w1 X : World} (h : B2 w w1 X) : w.heap.size ≤ X.heap.size ∧ w1.heap.size ≤ X.heap.size := ⟨h.one.size, h.two.size⟩
theorem B2.cell {w w1 X : World} (h : B2 w w1 X) {p : Addr} (hp : p.block < w.heap.size) : X.cell? p = w.cell? p := h.one.cell hp
theorem B2.size {w w1 X : World} (h : B2 w w1 X) : w.heap.size ≤ X.heap.size := h.one.size
def BJ (w : World) (J : World → Prop) (X : World) : Prop := Below w.heap.size w X ∧ J X
def grow (G : Nat → Prop) (X Y : World) : Nat → Prop := fun k => G k ∨ (X.heap.size ≤ k ∧ k < Y.heap.size)
def Iter {α : Type} (P : Program) (enc : α → Array Value) (w0 : World) (Fx : Nat → Prop) (gf : Nat) (lb : Array Value) (xs : List α) (w : World) : Prop :=
  ∀ (n l : Nat) (J : (Nat → Prop) → List α → World → Prop) (Jx : List α → World → Prop) (W : World),
    w.heap.size ≤ W.heap.size → (∀ k, k < w.heap.size → Fx k → W.heap[k]? = w.heap[k]?) →
    (∀ G s X Y, J G s X → Below X.heap.size X Y → J (grow G X Y) s Y) → (∀ s X Y, Jx s X → Below X.heap.size X Y → Jx s Y) → (∀ G s X, J G s X → Below w0.heap.size w0 X) →
    (∀ pre x rest G Y, xs = pre ++ x :: rest → J G pre Y →
      YieldAt Fence.wide (n - 1) P l (enc x) Y fun e Z =>
        (e = .returned (.bool true) ∧ J G (pre ++ [x]) Z ∧ Y.heap.size ≤ Z.heap.size ∧ ∀ k, k < Y.heap.size → (Fx k ∨ G k) → Z.heap[k]? = Y.heap[k]?) ∨
        (e = .returned (.bool false) ∧ Jx (pre ++ [x]) Z)) →
    J (fun _ => False) [] W →
    CallsIn Fence.wide n P gf (#[.func (.yield l) #[] #[]] ++ lb) W fun e Z => (∃ v, e = .returned v) ∧ ((∃ G, J G xs Z) ∨ ∃ pre, pre <+: xs ∧ Jx pre Z)
def leftBy {α : Type} (keep : Nat → Prop) (I : List α → World → Prop) (Ix : Code → List α → World → Prop) (xs : List α) (W : World) : Exit → Act → World → Prop
  | .normal, _, Z => I xs Z ∧ W.heap.size ≤ Z.heap.size ∧ ∀ k, k < W.heap.size → keep k → Z.heap[k]? = W.heap[k]?
  | .ret, _, Z => Ix .ret xs Z ∧ W.heap.size ≤ Z.heap.size ∧ ∀ k, k < W.heap.size → keep k → Z.heap[k]? = W.heap[k]?
  | .exit id, _, Z => Ix (.exit id) xs Z ∧ W.heap.size ≤ Z.heap.size ∧ ∀ k, k < W.heap.size → keep k → Z.heap[k]? = W.heap[k]?
  | .goto t, _, Z => Ix (.goto t) xs Z ∧ W.heap.size ≤ Z.heap.size ∧ ∀ k, k < W.heap.size → keep k → Z.heap[k]? = W.heap[k]?
  | .panic _, _, _ => False
  | .outgrown, _, _ => False
theorem wp_range {α : Type} {n : Nat} {P : Program} {g : Operand} {ps : Array Tmp} {assign body : Code} {Q : Exit → Act → World → Prop} {a : Act} {w w0 : World} (h1 : 1 ≤ n)
    {gf : Nat} {lb : Array Value} {enc : α → Array Value} {Fx : Nat → Prop} {xs : List α}
    (hg : a.eval g = .func (.func gf) #[] lb) (eg : ∀ args w, (callFunc gf args).run P w = .ok (.enter gf args) w)
    (hit : Iter P enc w0 Fx gf lb xs w) (hFx : ∀ k, Fx k → k < w.heap.size) (hps : ∀ x, (enc x).size = ps.size)
    (I : (Nat → Prop) → List α → World → Prop) (Ix : Code → List α → World → Prop)
    (hI : ∀ G s X Y, I G s X → Below X.heap.size X Y → I G s Y) (hIG : ∀ G G' s X, I G s X → (∀ k, G' k → G k ∨ X.heap.size ≤ k) → I G' s X)
    (hIx : ∀ c s X Y, Ix c s X → Below X.heap.size X Y → Ix c s Y) (hIB : ∀ G s X, I G s X → Below w0.heap.size w0 X)
    (hIp : ∀ G s X l o, I G s X → w.heap.size ≤ l → l < w.heap.size + 2 → l < X.heap.size → I G s (X.putObj l o))
    (hIxp : ∀ c s X l o, Ix c s X → w.heap.size ≤ l → l < w.heap.size + 2 → l < X.heap.size → Ix c s (X.putObj l o))
    (h0 : I (fun _ => False) [] w) (Ax : World → α → Act → World → Prop)
    (hAx : ∀ Y x a' Z l o, Ax Y x a' Z → w.heap.size ≤ l → l < w.heap.size + 2 → l < Y.heap.size → Ax Y x a' (Z.putObj l o))
    (hassign : ∀ (G : Nat → Prop) (pre : List α) (x : α) (Y : World), I G pre Y → w.heap.size + 2 ≤ Y.heap.size →
      assign.wpIn (Fence.wide.inRound (w.heap.size + 1)) (n - 1 - 1) P (Exit.then (fun a' Z => Below Y.heap.size Y Z ∧ Ax Y x a' Z) (fun _ _ _ => False)) { tmps := (ps.zip (enc x)).foldl (fun t (p, v) => t.setIfInBounds p v) a.tmps, defers := [] } Y)
    (hbody : ∀ (G : Nat → Prop) (pre : List α) (x : α) (rest : List α) (Y Z : World) (a' : Act), xs = pre ++ x :: rest → (∀ k, G k → w.heap.size + 2 ≤ k ∧ k < Y.heap.size) → I G pre Z → w.heap.size + 2 ≤ Y.heap.size → Y.heap.size ≤ Z.heap.size → Ax Y x a' Z →
      body.wpIn (Fence.wide.inRound (w.heap.size + 1)) (n - 1 - 1) P (leftBy (fun k => Fx k ∨ G k ∨ k = w.heap.size ∨ k = w.heap.size + 1) (I G) Ix (pre ++ [x]) Z) a' Z)
    (hdone : ∀ (G : Nat → Prop) (W : World), I G xs W → W.heap[w.heap.size]? = some (.deferred (some [])) → Q .normal { a with defers := { target := .collected w.heap.size, args := #[] } :: a.defers } W)
    (hstop : ∀ (c : Code) (pre : List α) (W : World), pre <+: xs → Ix c pre W → W.heap[w.heap.size]? = some (.deferred (some [])) → c.wpIn Fence.wide n P Q { a with defers := { target := .collected w.heap.size, args := #[] } :: a.defers } W) :
    (Code.rangeFunc g ps assign body).wpIn Fence.wide n P Q a w := by
  refine wpIn_rangeFunc ?_
  intro fn hfn
  rw [Fence.wide_round]
  obtain ⟨rec, hrec⟩ : ∃ rec : LoopState → Option Code → Loop, rec = fun st pe => { state := st, pending := pe, fn, tmps := a.tmps, params := ps, assign, body, defers := w.heap.size } := ⟨_, rfl⟩
  obtain ⟨W1, hW1⟩ : ∃ W1, (w.alloc (.deferred (some []))).alloc (.loop (rec .ready none)) = W1 := ⟨_, rfl⟩
  have hs1 : W1.heap.size = w.heap.size + 2 := by rw [← hW1]; simp
  have hL1 : W1.heap[w.heap.size + 1]? = some (.loop (rec .ready none)) := by
    rw [← hW1]; have := World.alloc_heap_new (w.alloc (.deferred (some []))) (.loop (rec .ready none)); rwa [World.size_alloc] at this
  have hK1 : W1.heap[w.heap.size]? = some (.deferred (some [])) := by
    rw [← hW1]; exact (Below.heap_alloc _ _ _ (by simp)).trans (World.alloc_heap_new w _)
  have hb1 : Below w.heap.size w W1 := by
    rw [← hW1]; exact ((Below.refl _ w).alloc (Nat.le_refl _) _).alloc (by simp) _
  have hI1 : I (fun _ => False) [] W1 := hI _ _ _ _ h0 hb1
  refine ⟨w.heap.size + 1, [{ target := .collected w.heap.size, args := #[] }], W1, { target := .fn (.func gf) lb, args := #[.func (.yield (w.heap.size + 1)) #[] #[]] }, W1, gf,
    #[.func (.yield (w.heap.size + 1)) #[] #[]] ++ lb, W1, ?_, ?_, ?_, ?_, fun _ => h1, ?_⟩
  · rw [← hW1, hrec]; exact run_enterLoop_outer _ _ _ _ _
  · simp only [resolve, hg]
    simp [go_sem]
  · intro f' _; trivial
  · simp [invoke, go_sem, eg]
  · have hlt1 : ∀ {W : World} {k : Nat} {o : Obj}, W.heap[k]? = some o → k < W.heap.size := fun h => (Array.getElem?_eq_some_iff.1 h).1
    refine (hit (n - 1) (w.heap.size + 1)
      (fun G pre W => I G pre W ∧ W.heap[w.heap.size + 1]? = some (.loop (rec .ready none)) ∧ W.heap[w.heap.size]? = some (.deferred (some [])) ∧ ∀ k, G k → w.heap.size + 2 ≤ k ∧ k < W.heap.size)
      (fun pre W => ∃ c, Ix c pre W ∧ W.heap[w.heap.size + 1]? = some (.loop (rec .done (some c))) ∧ W.heap[w.heap.size]? = some (.deferred (some [])))
      W1 (by omega) (fun k hk _ => hb1.block k hk)
      (fun G s X Y hs hb => by
        refine ⟨hI _ s X Y (hIG G _ s X hs.1 (fun k hk => hk.elim .inl (fun z => .inr z.1))) hb, (hb.block _ (hlt1 hs.2.1)).trans hs.2.1, (hb.block _ (hlt1 hs.2.2.1)).trans hs.2.2.1, fun k hk => ?_⟩
        have h3 := hlt1 hs.2.1
        have h4 := hb.size
        rcases hk with hk | hk
        · have := hs.2.2.2 k hk; omega
        · omega)
      (fun s X Y hs hb => by
        obtain ⟨c, hc, hl, hk⟩ := hs
        exact ⟨c, hIx c s X Y hc hb, (hb.block _ (hlt1 hl)).trans hl, (hb.block _ (hlt1 hk)).trans hk⟩)
      (fun G s X hs => hIB G s X hs.1)
      ?_ ⟨hI1, hL1, hK1, fun k hk => hk.elim⟩).mono ?_
    · rintro pre x rest G Y hx ⟨hiY, hl, hk, hGY⟩
      have hsY : w.heap.size + 2 ≤ Y.heap.size := by have := hlt1 hl; omega
      have hy := run_yield (P := P) (args := enc x) hl (by rw [hrec]; exact hps x)
      rw [hrec] at hy
      refine ⟨fn, _, assign, body, hy, roundIn_of_wpIn hfn (wpIn_mono (hassign G pre x Y hiY hsY) ?_)⟩
      clear hy
      intro e0 a' Z0 hp0
      cases e0 with
      | normal =>
        obtain ⟨hYZ, hax⟩ := hp0
        have hl0 := (hYZ.block _ (hlt1 hl)).trans hl
        have hk0 := (hYZ.block _ (hlt1 hk)).trans hk
        refine ⟨_, run_beginRound hl0 (by rw [hrec]), ?_⟩
        obtain ⟨Z, hZ⟩ : ∃ Z, Z0.putObj (w.heap.size + 1) (.loop { rec .ready none with state := .busy }) = Z := ⟨_, rfl⟩
        rw [hZ]
        have hl2 : Z.heap[w.heap.size + 1]? = some (.loop { rec .ready none with state := .busy }) := by rw [← hZ]; exact World.putObj_heap_same (hlt1 hl0)
        have hk2 : Z.heap[w.heap.size]? = some (.deferred (some [])) := by rw [← hZ]; exact (World.putObj_heap_other (by omega)).trans hk0
        have hsZ : Z.heap.size = Z0.heap.size := by rw [← hZ]; simp
        have hsZ0 : Y.heap.size ≤ Z0.heap.size := hYZ.size
        have hiZ : I G pre Z := by rw [← hZ]; exact hIp _ _ _ _ _ (hI _ _ _ _ hiY hYZ) (by omega) (by omega) (hlt1 hl0)
        have haZ : Ax Y x a' Z := by rw [← hZ]; exact hAx _ _ _ _ _ _ hax (by omega) (by omega) (by omega)
        refine wpIn_mono (hbody G pre x rest Y Z a' hx hGY hiZ hsY (by omega) haZ) ?_
        have fin : ∀ (jump : Option Code) (W3 : World), Z.heap.size ≤ W3.heap.size → (∀ k, k < Z.heap.size → (Fx k ∨ G k ∨ k = w.heap.size ∨ k = w.heap.size + 1) → W3.heap[k]? = Z.heap[k]?) →
            (Instr.endRound (w.heap.size + 1) jump).run P W3 = .ok (.bool jump.isNone) (W3.putObj (w.heap.size + 1) (.loop (rec (if jump.isNone then .ready else .done) jump))) ∧
            w.heap.size + 1 < W3.heap.size ∧
            (W3.putObj (w.heap.size + 1) (.loop (rec (if jump.isNone then .ready else .done) jump))).heap[w.heap.size + 1]? = some (.loop (rec (if jump.isNone then .ready else .done) jump)) ∧
            (W3.putObj (w.heap.size + 1) (.loop (rec (if jump.isNone then .ready else .done) jump))).heap[w.heap.size]? = some (.deferred (some [])) ∧
            ∀ k, k < Y.heap.size → (Fx k ∨ G k) → (W3.putObj (w.heap.size + 1) (.loop (rec (if jump.isNone then .ready else .done) jump))).heap[k]? = Y.heap[k]? := by
          intro jump W3 hsz hkeep
          have hl3 := (hkeep _ (hlt1 hl2) (.inr (.inr (.inr rfl)))).trans hl2
          have hk3 := (hkeep _ (hlt1 hk2) (.inr (.inr (.inl rfl)))).trans hk2
          have hrun := run_endRound (P := P) jump hl3
          rw [hrec] at hrun ⊢
          refine ⟨hrun, hlt1 hl3, World.putObj_heap_same (hlt1 hl3), (World.putObj_heap_other (by omega)).trans hk3, ?_⟩
          intro k hk hf
          have hne : k ≠ w.heap.size + 1 := by
            rcases hf with hf | hf
            · have := hFx k hf; omega
            · have := hGY k hf; omega
          rw [World.putObj_heap_other hne, hkeep k (by omega) (by rcases hf with hf | hf; exact .inl hf; exact .inr (.inl hf)), ← hZ, World.putObj_heap_other hne]
          exact hYZ.block k hk
        rintro e a3 W3 hp
        cases e with
        | normal =>
          obtain ⟨hi3, hs3, hk3⟩ := hp
          obtain ⟨hr, hlt3, hl4, hk4, hkp⟩ := fin none W3 hs3 hk3
          exact ⟨_, _, hr, .inl ⟨rfl, ⟨hIp _ _ _ _ _ hi3 (by omega) (by omega) hlt3, hl4, hk4, fun k hk => by have := hGY k hk; simp; omega⟩, by simp; omega, hkp⟩⟩
        | ret =>
          obtain ⟨hi3, hs3, hk3⟩ := hp
          obtain ⟨hr, hlt3, hl4, hk4, _⟩ := fin (some .ret) W3 hs3 hk3
          exact ⟨_, _, hr, .inr ⟨rfl, .ret, hIxp _ _ _ _ _ hi3 (by omega) (by omega) hlt3, hl4, hk4⟩⟩
        | exit id =>
          obtain ⟨hi3, hs3, hk3⟩ := hp
          obtain ⟨hr, hlt3, hl4, hk4, _⟩ := fin (some (.exit id)) W3 hs3 hk3
          exact ⟨_, _, hr, .inr ⟨rfl, .exit id, hIxp _ _ _ _ _ hi3 (by omega) (by omega) hlt3, hl4, hk4⟩⟩
        | goto t =>
          obtain ⟨hi3, hs3, hk3⟩ := hp
          obtain ⟨hr, hlt3, hl4, hk4, _⟩ := fin (some (.goto t)) W3 hs3 hk3
          exact ⟨_, _, hr, .inr ⟨rfl, .goto t, hIxp _ _ _ _ _ hi3 (by omega) (by omega) hlt3, hl4, hk4⟩⟩
        | panic ch => exact hp.elim
        | outgrown => exact hp.elim
      | ret => exact hp0.elim
      | exit id => exact hp0.elim
      | goto t => exact hp0.elim
      | panic ch => exact hp0.elim
      | outgrown => exact hp0.elim
    · rintro e W2 ⟨⟨v, rfl⟩, (⟨G, hi, hl, hk, _⟩ | ⟨pre, hSp, c, hi, hl, hk⟩)⟩
      · exact ⟨none, _, by have := run_endLoop (P := P) hl (by rw [hrec]; simp); rw [hrec] at this; exact this, hdone G _ (hIp _ _ _ _ _ hi (by omega) (by omega) (hlt1 hl)) ((World.putObj_heap_other (by omega)).trans hk)⟩
      · exact ⟨some c, _, by have := run_endLoop (P := P) hl (by rw [hrec]; simp); rw [hrec] at this; exact this, hstop c pre _ hSp (hIxp _ _ _ _ _ hi (by omega) (by omega) (hlt1 hl)) ((World.putObj_heap_other (by omega)).trans hk)⟩
end Go.Proofs.YtdgphlkbmplbpaaGreat.XR
end
