-- Words on bits: what Go's operations on 64 bits tell, bit by bit. Plain Lean; no program in sight.
import Derived.Test.YtlhkjkldjhapeaaXW
import Derived.Test.YtlhkjkldjhapeaaWMore
set_option linter.unusedVariables false
set_option linter.unusedSimpArgs false
namespace Go.Proofs.YtlhkjkldjhapeaaW.PrintWords
open Go.RowKit Go.Proofs.YtlhkjkldjhapeaaW.PrintMore
/-- one step of a printed function: a call that tells v -/
theorem obind {α β : Type} {x : Option α} {v : α} {g : α → Option β} {r : Option β} (h : x = some v) (h2 : g v = r) : x.bind g = r := by rw [h]; exact h2
/-! ### enough rounds -/
theorem Ev.at_ {α : Type} {g : Nat → Option α} {r : α} (c : Nat) (h : ∀ k, g (k + c) = some r) : Ev g r :=
  ⟨c, fun k hk => by obtain ⟨m, rfl⟩ : ∃ m, k = m + c := ⟨k - c, by omega⟩; exact h m⟩
theorem Ev.all {α : Type} {g : Nat → Option α} {r : α} (h : ∀ k, g k = some r) : Ev g r := ⟨0, fun k _ => h k⟩
theorem Ev.call {α β : Type} {x : Option α} {v : α} {f : Nat → α → Option β} {r : β} (h : x = some v) (k : Ev (fun n => f n v) r) : Ev (fun n => x.bind (f n)) r := by
  subst h; exact k
theorem Ev.yes {α : Type} {c : Prop} [Decidable c] {x y : Nat → Option α} {r : α} (h : c) (k : Ev x r) : Ev (fun n => if c then x n else y n) r :=
  Ev.congr (fun n => if_pos h) k
theorem Ev.no {α : Type} {c : Prop} [Decidable c] {x y : Nat → Option α} {r : α} (h : ¬ c) (k : Ev y r) : Ev (fun n => if c then x n else y n) r :=
  Ev.congr (fun n => if_neg h) k
theorem Ev.val {α : Type} {v r : α} (h : v = r) : Ev (fun _ => some v) r := by subst h; exact Ev.now _
def B (a : Int) : BitVec 64 := BitVec.ofInt 64 a
/-- bit i of a number of 64 bits -/
def bit (a : Int) (i : Nat) : Bool := (B a).getLsbD i
/-- the number whose bits p tells -/
def wordP (p : Nat → Bool) : Int := wordTo ((List.range 64).map p) 64
end Go.Proofs.YtlhkjkldjhapeaaW.PrintWords
