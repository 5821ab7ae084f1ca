/- Functions with rounds: what they answer from some number of rounds on. -/
import Derived.Test.YtaofommgdgmncaaWWords
import Derived.Test.YtaofommgdgmncaaWLast
import Derived.Test.YtaofommgdgmncaaWMore
namespace Go.Proofs.Ytaofommgdgmncaa.Evs
set_option linter.unusedVariables false
open Go.RowKit Go.Proofs.YtaofommgdgmncaaW.PrintWords Go.Proofs.YtaofommgdgmncaaW.PrintLast Go.Proofs.YtaofommgdgmncaaW.PrintMore

theorem Ev.succ {α : Type} {g : Nat → Option α} {r : α} (h : Ev (fun k => g (k + 1)) r) : Ev g r := Ev.step (fun _ => rfl) h
theorem Ev.same {α : Type} {r : α} {g : Nat → Option α} (h : g = fun _ => some r) : Ev g r := by rw [h]; exact Ev.now r
theorem Ev.pos {α : Type} {c : Prop} [Decidable c] {f g : Nat → Option α} {r : α} (hc : c) (h : Ev f r) : Ev (fun k => if c then f k else g k) r := Ev.congr (fun _ => if_pos hc) h
theorem Ev.neg {α : Type} {c : Prop} [Decidable c] {f g : Nat → Option α} {r : α} (hc : ¬ c) (h : Ev g r) : Ev (fun k => if c then f k else g k) r := Ev.congr (fun _ => if_neg hc) h
theorem wrap_succ {i : Nat} (h : i < 9223372036854775807) : wrap64 ((i : Int) + 1) = ((i + 1 : Nat) : Int) := by unfold wrap64; omega
theorem rdOf_get {α : Type} {d : α} {l : List α} {i : Nat} (h : i < l.length) : rdOf d l (i : Int) = l[i] := by simp [rdOf, h]
end Go.Proofs.Ytaofommgdgmncaa.Evs
