-- Functions and laws: texts of the session's own and of the kit's print program, joined; what nothing names is left out.
import Derived.Test.YtdgphlkbmplbpaaGreatQW
import Derived.OpenShut
import Derived.Deep.Slices
import Derived.SizedLaws
section
namespace Go.Proofs.YtdgphlkbmplbpaaGreat.XO
open Go.RowKit Go.Proofs.YtdgphlkbmplbpaaGreatW.PrintWords
set_option linter.unusedVariables false
variable {H : Type} {enc : TypeId × Value → H} {P : Program} {W : World} {α β : Type}
def Opens (enc : TypeId × Value → H) (P : Program) (W : World) (t : TypeId) (k : Kd α) (wf : α → Prop) : Prop :=
  ∀ fuel cs (x : DataW H × List MemPlace), DataW.trod enc P W 0 (fun _ => true) true fuel t cs = some x → (∀ n ∈ x.1.weights P t, n ≤ reachBytes) → ∃ a, k.K W a cs ∧ wf a
theorem Opens.int {t : TypeId} {ik : IntKind} (ht : P.underlying t = some (.int ik)) : Opens enc P W t (Kd.int ik) (fun z => (Lit.int ik z).wf = true) := by
  intro fuel cs x h _
  obtain ⟨n, rfl, _, hw⟩ := DataW.trod_int ht h
  exact ⟨n, rfl, hw⟩
def OpensF (enc : TypeId × Value → H) (P : Program) (W : World) (o : Nat) (fs : List (Nat × TypeId)) (k : Kd α) (wf : α → Prop) : Prop :=
  ∀ fuel (cs : List Value) (xs : List (DataW H × List MemPlace)), cs.length = o + k.sz → xs.length = fs.length →
    (∀ (i : Nat) (f : Nat × TypeId), fs[i]? = some f → DataW.trod enc P W 0 (fun _ => true) true fuel f.2 ((cs.drop f.1).take (P.cellsOf f.2)) = xs[i]?) →
    (∀ (i : Nat) (f : Nat × TypeId) (x : DataW H × List MemPlace), fs[i]? = some f → xs[i]? = some x → ∀ n ∈ x.1.weights P f.2, n ≤ reachBytes) → ∃ a, k.K W a (cs.drop o) ∧ wf a
theorem OpensF.one {o : Nat} {t : TypeId} {k : Kd α} {wf : α → Prop} (hsz : P.cellsOf t = k.sz) (h : Opens enc P W t k wf) : OpensF enc P W o [(o, t)] k wf := by
  intro fuel cs xs hl hx hr hw
  match xs, hx with
  | [x], _ =>
    have h1 := hr 0 (o, t) rfl
    have h2 : (cs.drop o).take (P.cellsOf t) = cs.drop o := by
      rw [hsz]; exact List.take_of_length_le (by rw [List.length_drop]; omega)
    simp only [h2] at h1
    exact h fuel _ x h1 (hw 0 (o, t) x rfl rfl)
theorem OpensF.cons {o o' : Nat} {t : TypeId} {fs : List (Nat × TypeId)} {k : Kd α} {k' : Kd β} {wf : α → Prop} {wf' : β → Prop} (hsz : P.cellsOf t = k.sz) (ho : o' = o + k.sz)
    (h : Opens enc P W t k wf) (h' : OpensF enc P W o' fs k' wf') : OpensF enc P W o ((o, t) :: fs) (Kd.pair k k') (fun p => wf p.1 ∧ wf' p.2) := by
  subst ho
  intro fuel cs xs hl hx hr hw
  match xs, hx with
  | x :: xs, hx =>
    have hl' : cs.length = o + k.sz + k'.sz := by rw [hl]; show o + (k.sz + k'.sz) = _; omega
    have h1 := hr 0 (o, t) rfl
    simp only [hsz] at h1
    obtain ⟨a, ka, wa⟩ := h fuel _ x h1 (hw 0 (o, t) x rfl rfl)
    obtain ⟨b, kb, wb⟩ := h' fuel cs xs hl' (by simpa using hx) (fun i f hf => by simpa using hr (i + 1) f (by simpa using hf)) (fun i f y hf hy => hw (i + 1) f y (by simpa using hf) (by simpa using hy))
    refine ⟨(a, b), ⟨_, _, ?_, ka, kb⟩, wa, wb⟩
    rw [← List.drop_drop, List.take_append_drop]
theorem mem_weightsEach {ts : List TypeId} {ds : List (DataW H)} {j : Nat} {t : TypeId} {d : DataW H} (h1 : ts[j]? = some t) (h2 : ds[j]? = some d) : ∀ n ∈ d.weights P t, n ∈ DataW.weightsEach P ts ds := DataW.weights_mem_each h1 h2
theorem Opens.struct {t : TypeId} {fs : Array Field} {fs' : List (Nat × TypeId)} {k : Kd α} {wf : α → Prop} (ht : P.underlying t = some (.struct fs)) (hf : fs.toList.map (fun f => (f.offset, f.type)) = fs') (hsz : P.cellsOf t = k.sz)
    (h : OpensF enc P W 0 fs' k wf) : Opens enc P W t k wf := by
  subst hf
  intro fuel cs x hx hw
  obtain ⟨xs, n, rfl, rfl, hl, hxl, hr⟩ := DataW.trod_struct ht hx
  have := h n cs xs (by rw [hl, hsz]; omega) (by simp [hxl]) (fun i f hf => by
      rw [List.getElem?_map] at hf
      obtain ⟨g, hg, rfl⟩ := Option.map_eq_some_iff.1 hf
      exact hr i g (by simpa using hg)) (fun i f y hf hy m hm => by
      rw [List.getElem?_map] at hf
      obtain ⟨g, hg, rfl⟩ := Option.map_eq_some_iff.1 hf
      refine hw m ?_
      simp only [DataW.weights, ht]
      exact mem_weightsEach (j := i) (by rw [List.getElem?_map, hg]; rfl) (by rw [List.getElem?_map, hy]; rfl) m hm)
  simpa using this
theorem Opens.arg {t : TypeId} {k : Kd α} {wf : α → Prop} {v : Value} {d : DataW H} {p : List MemPlace} (h : Opens enc P W t k wf) (hd : DataW.Trod enc P W 0 (fun _ => true) true t v d p)
    {ts : List TypeId} {ds : List (DataW H)} (hsz : (DataW.weightsEach P ts ds).all (· ≤ reachBytes) = true) {j : Nat} (h1 : ts[j]? = some t) (h2 : ds[j]? = some d) : ∃ a, k.K W a v.cells.toList ∧ wf a := by
  obtain ⟨fuel, hf⟩ := hd
  refine h fuel _ _ hf fun n hn => ?_
  have := List.all_eq_true.1 hsz n (mem_weightsEach h1 h2 n hn)
  simpa using this
end Go.Proofs.YtdgphlkbmplbpaaGreat.XO
end
